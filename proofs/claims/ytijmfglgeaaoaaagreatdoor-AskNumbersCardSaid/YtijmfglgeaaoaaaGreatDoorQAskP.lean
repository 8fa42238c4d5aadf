/-
  Commands, plain: which are right, what their bytes are, and what is got of bytes. No program in sight.
-/
import Derived.Test.YtijmfglgeaaoaaaGreatDoorQBeP
import Derived.Test.YtijmfglgeaaoaaaGreatDoorQCodQ
namespace Go.Proofs.YtijmfglgeaaoaaaGreatDoor
set_option linter.unusedVariables false
set_option linter.unusedSimpArgs false

/-- A command. Codes are lists of bytes. -/
structure AskV where
  kind : Int
  request : Int
  item : List UInt8
  qty : Int
  day : Int
  days : Int
  rank : Int
  lot : Int
  line : Int
  parts : List (List UInt8 × Int)
  others : List (List UInt8)
def AskV.zero : AskV := ⟨0, 0, [], 0, 0, 0, 0, 0, 0, [], []⟩
/-- The fields of a kind, each as one letter: i 105, q 113, d 100, l 108, r 114, t 116, n 110, p 112, o 111. -/
def fieldsK (k : Int) : Option (List Nat) :=
  if k = 1 then some [105, 108] else if k = 2 then some [105, 112] else if k = 3 then some [105, 111] else if k = 4 then some [105, 113] else if k = 5 then some [105, 113, 100] else if k = 6 then some [116, 100]
  else if k = 7 then some [116] else if k = 8 then some [116] else if k = 9 then some [105, 113, 100, 114] else if k = 10 then some [110] else if k = 11 then some [110] else if k = 12 then some []
  else if k = 13 then some [105, 113, 100] else if k = 14 then some [110] else if k = 15 then some [105] else none
def withinB (n least most : Int) : Bool := decide (least ≤ n) && decide (n ≤ most)
/-- Are all of a list codes, no two alike? -/
def unlikeB (l : List (List UInt8)) : Bool := (List.range l.length).all fun i => codeL (l.getD i []) && !(l.take i).contains (l.getD i [])
def partsB (l : List (List UInt8 × Int)) : Bool := (l.all fun p => withinB p.2 1 1073741824) && (decide (0 < l.length) && (decide (l.length ≤ 8) && unlikeB (l.map Prod.fst)))
def othersB (l : List (List UInt8)) (item : List UInt8) : Bool := decide (l.length ≤ 4) && (unlikeB l && !l.contains item)
/-- Is a field that a kind has right? -/
def okF (a : AskV) (c : Nat) : Bool :=
  if c = 105 then codeL a.item else if c = 113 then withinB a.qty 1 1073741824 else if c = 100 then withinB a.day 0 4000 else if c = 108 then withinB a.days 1 2000 else if c = 114 then withinB a.rank 0 99
  else if c = 116 then decide (0 < a.lot) else if c = 110 then decide (0 < a.line) else if c = 112 then partsB a.parts else if c = 111 then othersB a.others a.item else true
/-- Has a field that a kind has not nothing? -/
def zeroF (a : AskV) (c : Nat) : Bool :=
  if c = 105 then decide (a.item = []) else if c = 113 then decide (a.qty = 0) else if c = 100 then decide (a.day = 0) else if c = 108 then decide (a.days = 0) else if c = 114 then decide (a.rank = 0)
  else if c = 116 then decide (a.lot = 0) else if c = 110 then decide (a.line = 0) else if c = 112 then decide (a.parts = []) else if c = 111 then decide (a.others = []) else true
def letters : List Nat := [105, 113, 100, 108, 114, 116, 110, 112, 111]
def fitF (a : AskV) (f : List Nat) (c : Nat) : Bool := if f.contains c then okF a c else zeroF a c
def rightA (a : AskV) : Bool := match fieldsK a.kind with
  | none => false
  | some f => withinB a.request 0 4611686018427387904 && letters.all (fitF a f)
/-- A field's bytes. -/
def encF (a : AskV) (c : Nat) : List Int :=
  if c = 105 then putL a.item else if c = 113 then be 8 a.qty else if c = 100 then be 2 a.day else if c = 108 then be 2 a.days else if c = 114 then be 1 a.rank else if c = 116 then be 8 a.lot else if c = 110 then be 8 a.line
  else if c = 112 then be 1 a.parts.length ++ a.parts.flatMap (fun p => putL p.1 ++ be 8 p.2) else if c = 111 then be 1 a.others.length ++ a.others.flatMap putL else []
def bodyA (a : AskV) : List Int := be 1 a.kind ++ (be 8 a.request ++ ((fieldsK a.kind).getD []).flatMap (encF a))
def putA (a : AskV) : List Int := if rightA a then bodyA a else []

/-! Got of bytes. -/
def codeS : Option (List Int) → List UInt8 × Option (List Int)
  | none => ([], none)
  | some zs => match getL zs with
    | some l => (l, some (zs.drop (1 + l.length)))
    | none => ([], none)
def partsS : Nat → Option (List Int) → List (List UInt8 × Int) × Option (List Int)
  | 0, s => ([], s)
  | _ + 1, none => ([], none)
  | n + 1, some zs => (((codeS (some zs)).1, (numS 8 (codeS (some zs)).2).1) :: (partsS n (numS 8 (codeS (some zs)).2).2).1, (partsS n (numS 8 (codeS (some zs)).2).2).2)
def othersS : Nat → Option (List Int) → List (List UInt8) × Option (List Int)
  | 0, s => ([], s)
  | _ + 1, none => ([], none)
  | n + 1, some zs => ((codeS (some zs)).1 :: (othersS n (codeS (some zs)).2).1, (othersS n (codeS (some zs)).2).2)
/-- One field is got. -/
def decF (x : AskV × Option (List Int)) (c : Nat) : AskV × Option (List Int) :=
  if c = 105 then ({ x.1 with item := (codeS x.2).1 }, (codeS x.2).2) else if c = 113 then ({ x.1 with qty := (numS 8 x.2).1 }, (numS 8 x.2).2) else if c = 100 then ({ x.1 with day := (numS 2 x.2).1 }, (numS 2 x.2).2)
  else if c = 108 then ({ x.1 with days := (numS 2 x.2).1 }, (numS 2 x.2).2) else if c = 114 then ({ x.1 with rank := (numS 1 x.2).1 }, (numS 1 x.2).2) else if c = 116 then ({ x.1 with lot := (numS 8 x.2).1 }, (numS 8 x.2).2)
  else if c = 110 then ({ x.1 with line := (numS 8 x.2).1 }, (numS 8 x.2).2) else if c = 112 then ({ x.1 with parts := (partsS (numS 1 x.2).1.toNat (numS 1 x.2).2).1 }, (partsS (numS 1 x.2).1.toNat (numS 1 x.2).2).2)
  else if c = 111 then ({ x.1 with others := (othersS (numS 1 x.2).1.toNat (numS 1 x.2).2).1 }, (othersS (numS 1 x.2).1.toNat (numS 1 x.2).2).2) else x
def startA (s : Option (List Int)) : AskV × Option (List Int) := ({ AskV.zero with kind := (numS 1 s).1, request := (numS 8 (numS 1 s).2).1 }, (numS 8 (numS 1 s).2).2)
def readA (s : Option (List Int)) : AskV × Option (List Int) := ((fieldsK (numS 1 s).1).getD []).foldl decF (startA s)
/-- The command that bytes begin with, and how many go by. -/
def getA (zs : List Int) : Option (AskV × Nat) := match (readA (some zs)).2 with
  | none => none
  | some r => if rightA (readA (some zs)).1 then some ((readA (some zs)).1, zs.length - r.length) else none

/-! What is put is got. -/
theorem codeS_app {l : List UInt8} (h : putOk l = true) (r : List Int) : codeS (some (putL l ++ r)) = (l, some r) := by
  simp only [codeS]
  rw [get_put h r]
  simp only
  rw [putL_ok h, show 1 + l.length = ((l.length : Int) :: ints l).length by rw [List.length_cons, ints_length]; omega, List.drop_left]
theorem codeL_putOk {l : List UInt8} (h : codeL l = true) : putOk l = true := by unfold putOk; rw [h]; simp
theorem partsS_app (l : List (List UInt8 × Int)) (r : List Int) (h : ∀ p ∈ l, codeL p.1 = true ∧ 0 ≤ p.2 ∧ p.2 < 9223372036854775808) : partsS l.length (some (l.flatMap (fun p => putL p.1 ++ be 8 p.2) ++ r)) = (l, some r) := by
  induction l with
  | nil => rfl
  | cons p l ih =>
    obtain ⟨h1, h2, h3⟩ := h p (by simp)
    have e : codeS (some ((p :: l).flatMap (fun p => putL p.1 ++ be 8 p.2) ++ r)) = (p.1, some (be 8 p.2 ++ (l.flatMap (fun p => putL p.1 ++ be 8 p.2) ++ r))) := by
      rw [List.flatMap_cons, List.append_assoc, List.append_assoc]
      exact codeS_app (codeL_putOk h1) _
    have e2 := numS_app 8 p.2 (l.flatMap (fun p => putL p.1 ++ be 8 p.2) ++ r) h2 (by omega) h3
    show partsS (l.length + 1) _ = _
    unfold partsS
    rw [e]
    simp only
    rw [e2]
    simp only
    rw [ih (fun q hq => h q (by simp [hq]))]
theorem othersS_app (l : List (List UInt8)) (r : List Int) (h : ∀ p ∈ l, codeL p = true) : othersS l.length (some (l.flatMap putL ++ r)) = (l, some r) := by
  induction l with
  | nil => rfl
  | cons p l ih =>
    have e : codeS (some ((p :: l).flatMap putL ++ r)) = (p, some (l.flatMap putL ++ r)) := by
      rw [List.flatMap_cons, List.append_assoc]
      exact codeS_app (codeL_putOk (h p (by simp))) _
    show othersS (l.length + 1) _ = _
    unfold othersS
    rw [e]
    simp only
    rw [ih (fun q hq => h q (by simp [hq]))]
theorem unlikeB_codes {l : List (List UInt8)} (h : unlikeB l = true) : ∀ p ∈ l, codeL p = true := by
  intro p hp
  obtain ⟨i, hi, rfl⟩ := List.mem_iff_getElem.1 hp
  have := (List.all_eq_true.1 h) i (List.mem_range.2 hi)
  rw [List.getD_eq_getElem?_getD, List.getElem?_eq_getElem hi] at this
  simp only [Option.getD_some, Bool.and_eq_true] at this
  exact this.1
theorem withinB_iff {n a b : Int} : withinB n a b = true ↔ a ≤ n ∧ n ≤ b := by unfold withinB; simp
theorem partsB_mem {l : List (List UInt8 × Int)} (h : partsB l = true) : 0 < l.length ∧ l.length ≤ 8 ∧ ∀ p ∈ l, codeL p.1 = true ∧ 1 ≤ p.2 ∧ p.2 ≤ 1073741824 := by
  unfold partsB at h
  simp only [Bool.and_eq_true, decide_eq_true_eq] at h
  obtain ⟨h1, h2, h3, h4⟩ := h
  refine ⟨h2, h3, fun p hp => ⟨unlikeB_codes h4 p.1 (List.mem_map_of_mem hp), ?_⟩⟩
  exact withinB_iff.1 ((List.all_eq_true.1 h1) p hp)
theorem othersB_mem {l : List (List UInt8)} {item : List UInt8} (h : othersB l item = true) : l.length ≤ 4 ∧ ∀ p ∈ l, codeL p = true := by
  unfold othersB at h
  simp only [Bool.and_eq_true, decide_eq_true_eq] at h
  exact ⟨h.1, unlikeB_codes h.2.1⟩
/-- A field of one command put into another. -/
def setF (a : AskV) (x : AskV) (c : Nat) : AskV :=
  if c = 105 then { x with item := a.item } else if c = 113 then { x with qty := a.qty } else if c = 100 then { x with day := a.day } else if c = 108 then { x with days := a.days } else if c = 114 then { x with rank := a.rank }
  else if c = 116 then { x with lot := a.lot } else if c = 110 then { x with line := a.line } else if c = 112 then { x with parts := a.parts } else if c = 111 then { x with others := a.others } else x
theorem decF_app {a x : AskV} {c : Nat} (h : okF a c = true) (hlot : a.lot < 9223372036854775808) (hline : a.line < 9223372036854775808) (hc : c ∈ letters) (r : List Int) : decF (x, some (encF a c ++ r)) c = (setF a x c, some r) := by
  unfold letters at hc
  simp only [List.mem_cons, List.not_mem_nil, or_false] at hc
  rcases hc with rfl | rfl | rfl | rfl | rfl | rfl | rfl | rfl | rfl <;> simp only [okF, encF, decF, setF, Nat.reduceEqDiff, if_true, if_false] at h ⊢
  · rw [codeS_app (codeL_putOk h)]
  · have := withinB_iff.1 h
    rw [numS_app 8 a.qty r (by omega) (by omega) (by omega)]
  · have := withinB_iff.1 h
    rw [numS_app 2 a.day r (by omega) (by omega) (by omega)]
  · have := withinB_iff.1 h
    rw [numS_app 2 a.days r (by omega) (by omega) (by omega)]
  · have := withinB_iff.1 h
    rw [numS_app 1 a.rank r (by omega) (by omega) (by omega)]
  · have : 0 < a.lot := by simpa using h
    rw [numS_app 8 a.lot r (by omega) (by omega) (by omega)]
  · have : 0 < a.line := by simpa using h
    rw [numS_app 8 a.line r (by omega) (by omega) (by omega)]
  · obtain ⟨h1, h2, h3⟩ := partsB_mem h
    rw [List.append_assoc, numS_app 1 a.parts.length _ (by omega) (by omega) (by omega)]
    simp only [Int.toNat_natCast]
    rw [partsS_app a.parts r (fun p hp => ⟨(h3 p hp).1, by have := h3 p hp; omega, by have := h3 p hp; omega⟩)]
  · obtain ⟨h1, h2⟩ := othersB_mem h
    rw [List.append_assoc, numS_app 1 a.others.length _ (by omega) (by omega) (by omega)]
    simp only [Int.toNat_natCast]
    rw [othersS_app a.others r h2]
theorem fold_app {a : AskV} (hlot : a.lot < 9223372036854775808) (hline : a.line < 9223372036854775808) (r : List Int) : ∀ (f : List Nat) (x : AskV), (∀ c ∈ f, okF a c = true ∧ c ∈ letters) → f.foldl decF (x, some (f.flatMap (encF a) ++ r)) = (f.foldl (setF a) x, some r)
  | [], x, _ => rfl
  | c :: f, x, h => by
    rw [List.flatMap_cons, List.append_assoc, List.foldl_cons, decF_app (h c (by simp)).1 hlot hline (h c (by simp)).2, List.foldl_cons]
    exact fold_app hlot hline r f _ (fun d hd => h d (by simp [hd]))
/-- The kinds, one by one. -/
theorem fieldsK_none {k : Int} (h : k < 1 ∨ 15 < k) : fieldsK k = none := by
  unfold fieldsK
  rw [if_neg (by omega), if_neg (by omega), if_neg (by omega), if_neg (by omega), if_neg (by omega), if_neg (by omega), if_neg (by omega), if_neg (by omega), if_neg (by omega), if_neg (by omega), if_neg (by omega), if_neg (by omega), if_neg (by omega), if_neg (by omega), if_neg (by omega)]
theorem fieldsK_range {k : Int} {f : List Nat} (h : fieldsK k = some f) : 1 ≤ k ∧ k ≤ 15 := by
  by_cases hk : k < 1 ∨ 15 < k
  · rw [fieldsK_none hk] at h; cases h
  · omega
theorem fieldsK_some {k : Int} {f : List Nat} (h : fieldsK k = some f) : 1 ≤ k ∧ k ≤ 15 ∧ ∀ c ∈ f, c ∈ letters := by
  obtain ⟨h1, h2⟩ := fieldsK_range h
  refine ⟨h1, h2, ?_⟩
  rcases (show k = 1 ∨ k = 2 ∨ k = 3 ∨ k = 4 ∨ k = 5 ∨ k = 6 ∨ k = 7 ∨ k = 8 ∨ k = 9 ∨ k = 10 ∨ k = 11 ∨ k = 12 ∨ k = 13 ∨ k = 14 ∨ k = 15 by omega) with rfl | rfl | rfl | rfl | rfl | rfl | rfl | rfl | rfl | rfl | rfl | rfl | rfl | rfl | rfl
  · rw [show fieldsK 1 = some [105, 108] from rfl] at h; injection h with h; subst h; decide
  · rw [show fieldsK 2 = some [105, 112] from rfl] at h; injection h with h; subst h; decide
  · rw [show fieldsK 3 = some [105, 111] from rfl] at h; injection h with h; subst h; decide
  · rw [show fieldsK 4 = some [105, 113] from rfl] at h; injection h with h; subst h; decide
  · rw [show fieldsK 5 = some [105, 113, 100] from rfl] at h; injection h with h; subst h; decide
  · rw [show fieldsK 6 = some [116, 100] from rfl] at h; injection h with h; subst h; decide
  · rw [show fieldsK 7 = some [116] from rfl] at h; injection h with h; subst h; decide
  · rw [show fieldsK 8 = some [116] from rfl] at h; injection h with h; subst h; decide
  · rw [show fieldsK 9 = some [105, 113, 100, 114] from rfl] at h; injection h with h; subst h; decide
  · rw [show fieldsK 10 = some [110] from rfl] at h; injection h with h; subst h; decide
  · rw [show fieldsK 11 = some [110] from rfl] at h; injection h with h; subst h; decide
  · rw [show fieldsK 12 = some [] from rfl] at h; injection h with h; subst h; decide
  · rw [show fieldsK 13 = some [105, 113, 100] from rfl] at h; injection h with h; subst h; decide
  · rw [show fieldsK 14 = some [110] from rfl] at h; injection h with h; subst h; decide
  · rw [show fieldsK 15 = some [105] from rfl] at h; injection h with h; subst h; decide
theorem rightA_some {a : AskV} (h : rightA a = true) : ∃ f, fieldsK a.kind = some f ∧ 0 ≤ a.request ∧ a.request ≤ 4611686018427387904 ∧ ∀ c ∈ letters, fitF a f c = true := by
  unfold rightA at h
  split at h
  · cases h
  · rename_i f hf
    simp only [Bool.and_eq_true] at h
    have h1 := withinB_iff.1 h.1
    exact ⟨f, hf, h1.1, h1.2, List.all_eq_true.1 h.2⟩
/-- A right command is its fields, put into one of its kind. -/
theorem set_all {a : AskV} {f : List Nat} (hf : fieldsK a.kind = some f) (h : ∀ c ∈ letters, fitF a f c = true) : f.foldl (setF a) { AskV.zero with kind := a.kind, request := a.request } = a := by
  have h1 := h 105 (by decide)
  have h2 := h 113 (by decide)
  have h3 := h 100 (by decide)
  have h4 := h 108 (by decide)
  have h5 := h 114 (by decide)
  have h6 := h 116 (by decide)
  have h7 := h 110 (by decide)
  have h8 := h 112 (by decide)
  have h9 := h 111 (by decide)
  clear h
  obtain ⟨kind, request, item, qty, day, days, rank, lot, line, parts, others⟩ := a
  simp only at hf
  obtain ⟨g1, g2⟩ := fieldsK_range hf
  rcases (show kind = 1 ∨ kind = 2 ∨ kind = 3 ∨ kind = 4 ∨ kind = 5 ∨ kind = 6 ∨ kind = 7 ∨ kind = 8 ∨ kind = 9 ∨ kind = 10 ∨ kind = 11 ∨ kind = 12 ∨ kind = 13 ∨ kind = 14 ∨ kind = 15 by omega) with rfl | rfl | rfl | rfl | rfl | rfl | rfl | rfl | rfl | rfl | rfl | rfl | rfl | rfl | rfl
  · rw [show fieldsK 1 = some [105, 108] from rfl] at hf; injection hf with hf; subst hf; simp [fitF, okF, zeroF] at h1 h2 h3 h4 h5 h6 h7 h8 h9; simp [setF, AskV.zero, *]
  · rw [show fieldsK 2 = some [105, 112] from rfl] at hf; injection hf with hf; subst hf; simp [fitF, okF, zeroF] at h1 h2 h3 h4 h5 h6 h7 h8 h9; simp [setF, AskV.zero, *]
  · rw [show fieldsK 3 = some [105, 111] from rfl] at hf; injection hf with hf; subst hf; simp [fitF, okF, zeroF] at h1 h2 h3 h4 h5 h6 h7 h8 h9; simp [setF, AskV.zero, *]
  · rw [show fieldsK 4 = some [105, 113] from rfl] at hf; injection hf with hf; subst hf; simp [fitF, okF, zeroF] at h1 h2 h3 h4 h5 h6 h7 h8 h9; simp [setF, AskV.zero, *]
  · rw [show fieldsK 5 = some [105, 113, 100] from rfl] at hf; injection hf with hf; subst hf; simp [fitF, okF, zeroF] at h1 h2 h3 h4 h5 h6 h7 h8 h9; simp [setF, AskV.zero, *]
  · rw [show fieldsK 6 = some [116, 100] from rfl] at hf; injection hf with hf; subst hf; simp [fitF, okF, zeroF] at h1 h2 h3 h4 h5 h6 h7 h8 h9; simp [setF, AskV.zero, *]
  · rw [show fieldsK 7 = some [116] from rfl] at hf; injection hf with hf; subst hf; simp [fitF, okF, zeroF] at h1 h2 h3 h4 h5 h6 h7 h8 h9; simp [setF, AskV.zero, *]
  · rw [show fieldsK 8 = some [116] from rfl] at hf; injection hf with hf; subst hf; simp [fitF, okF, zeroF] at h1 h2 h3 h4 h5 h6 h7 h8 h9; simp [setF, AskV.zero, *]
  · rw [show fieldsK 9 = some [105, 113, 100, 114] from rfl] at hf; injection hf with hf; subst hf; simp [fitF, okF, zeroF] at h1 h2 h3 h4 h5 h6 h7 h8 h9; simp [setF, AskV.zero, *]
  · rw [show fieldsK 10 = some [110] from rfl] at hf; injection hf with hf; subst hf; simp [fitF, okF, zeroF] at h1 h2 h3 h4 h5 h6 h7 h8 h9; simp [setF, AskV.zero, *]
  · rw [show fieldsK 11 = some [110] from rfl] at hf; injection hf with hf; subst hf; simp [fitF, okF, zeroF] at h1 h2 h3 h4 h5 h6 h7 h8 h9; simp [setF, AskV.zero, *]
  · rw [show fieldsK 12 = some [] from rfl] at hf; injection hf with hf; subst hf; simp [fitF, okF, zeroF] at h1 h2 h3 h4 h5 h6 h7 h8 h9; simp [setF, AskV.zero, *]
  · rw [show fieldsK 13 = some [105, 113, 100] from rfl] at hf; injection hf with hf; subst hf; simp [fitF, okF, zeroF] at h1 h2 h3 h4 h5 h6 h7 h8 h9; simp [setF, AskV.zero, *]
  · rw [show fieldsK 14 = some [110] from rfl] at hf; injection hf with hf; subst hf; simp [fitF, okF, zeroF] at h1 h2 h3 h4 h5 h6 h7 h8 h9; simp [setF, AskV.zero, *]
  · rw [show fieldsK 15 = some [105] from rfl] at hf; injection hf with hf; subst hf; simp [fitF, okF, zeroF] at h1 h2 h3 h4 h5 h6 h7 h8 h9; simp [setF, AskV.zero, *]
theorem aget_put {a : AskV} (hr : rightA a = true) (hlot : a.lot < 9223372036854775808) (hline : a.line < 9223372036854775808) (more : List Int) : getA (putA a ++ more) = some (a, (putA a).length) := by
  obtain ⟨f, hf, h1, h2, h3⟩ := rightA_some hr
  obtain ⟨k1, k2, k3⟩ := fieldsK_some hf
  have hp : putA a = be 1 a.kind ++ (be 8 a.request ++ f.flatMap (encF a)) := by
    unfold putA bodyA
    rw [if_pos hr, hf]
    rfl
  have e1 : numS 1 (some (putA a ++ more)) = (a.kind, some (be 8 a.request ++ (f.flatMap (encF a) ++ more))) := by
    rw [hp, List.append_assoc, List.append_assoc]
    exact numS_app 1 a.kind _ (by omega) (by omega) (by omega)
  have e2 : numS 8 (some (be 8 a.request ++ (f.flatMap (encF a) ++ more))) = (a.request, some (f.flatMap (encF a) ++ more)) := numS_app 8 a.request _ (by omega) (by omega) (by omega)
  have hok : ∀ c ∈ f, okF a c = true ∧ c ∈ letters := fun c hc => by
    have := h3 c (k3 c hc)
    unfold fitF at this
    rw [if_pos (by simpa using hc)] at this
    exact ⟨this, k3 c hc⟩
  have er : readA (some (putA a ++ more)) = (a, some more) := by
    unfold readA startA
    rw [e1]
    simp only
    rw [e2, hf]
    simp only [Option.getD_some]
    rw [fold_app hlot hline more f _ hok, set_all hf h3]
  unfold getA
  rw [er]
  simp only
  rw [if_pos hr, List.length_append]
  congr 2
  omega

/-! What is got is put. -/
def BytesO (s : Option (List Int)) : Prop := ∀ ys, s = some ys → ∀ y ∈ ys, isByte y
theorem BytesO.of {l r : List Int} {s : Option (List Int)} (h : BytesO s) (e : s = some (l ++ r)) : BytesO (some r) := fun ys e' y hy => by
  injection e' with e'
  subst e'
  exact h _ e y (by simp [hy])
theorem num_fall {k : Nat} {s : Option (List Int)} {zs : List Int} (hk : k ≤ 8) (hb : BytesO s) (h : (numS k s).2 = some zs) : s = some (be k (numS k s).1 ++ zs) ∧ I64 (numS k s).1 ∧ (k ≤ 7 → 0 ≤ (numS k s).1 ∧ (numS k s).1 < 2 ^ (8 * k)) := numS_eq hk hb (by rw [← h])
theorem code_fall {s : Option (List Int)} {zs : List Int} (hb : BytesO s) (h : (codeS s).2 = some zs) : s = some (putL (codeS s).1 ++ zs) := by
  cases s with
  | none => cases h
  | some ys =>
    simp only [codeS] at h ⊢
    cases hg : getL ys with
    | none => rw [hg] at h; cases h
    | some l =>
      rw [hg] at h
      simp only at h ⊢
      injection h with h
      obtain ⟨_, h2, h3⟩ := put_get (hb ys rfl) hg
      rw [h3, ← h, List.take_append_drop]
theorem parts_fall : ∀ (n : Nat) {s : Option (List Int)} {zs : List Int}, BytesO s → (partsS n s).2 = some zs → s = some ((partsS n s).1.flatMap (fun p => putL p.1 ++ be 8 p.2) ++ zs) ∧ (partsS n s).1.length = n
  | 0, s, zs, _, h => ⟨h, rfl⟩
  | n + 1, none, zs, _, h => by cases h
  | n + 1, some ys, zs, hb, h => by
    simp only [partsS] at h ⊢
    cases h1 : (codeS (some ys)).2 with
    | none =>
      rw [h1] at h
      rw [show (numS 8 none).2 = none from rfl] at h
      cases n <;> cases h
    | some y1 =>
      have e1 := code_fall hb h1
      have b1 := hb.of e1
      rw [h1] at h
      cases h2 : (numS 8 (some y1)).2 with
      | none => rw [h2] at h; cases n <;> cases h
      | some y2 =>
        obtain ⟨e2, _⟩ := num_fall (by decide) b1 h2
        have b2 := b1.of e2
        rw [h2] at h
        obtain ⟨e3, e4⟩ := parts_fall n b2 h
        refine ⟨?_, by simp only [List.length_cons]; rw [e4]⟩
        injection e1 with e1
        injection e2 with e2
        injection e3 with e3
        rw [List.flatMap_cons, List.append_assoc, List.append_assoc, ← e3, ← e2, ← e1]
theorem others_fall : ∀ (n : Nat) {s : Option (List Int)} {zs : List Int}, BytesO s → (othersS n s).2 = some zs → s = some ((othersS n s).1.flatMap putL ++ zs) ∧ (othersS n s).1.length = n
  | 0, s, zs, _, h => ⟨h, rfl⟩
  | n + 1, none, zs, _, h => by cases h
  | n + 1, some ys, zs, hb, h => by
    simp only [othersS] at h ⊢
    cases h1 : (codeS (some ys)).2 with
    | none => rw [h1] at h; cases n <;> cases h
    | some y1 =>
      have e1 := code_fall hb h1
      have b1 := hb.of e1
      rw [h1] at h
      obtain ⟨e3, e4⟩ := others_fall n b1 h
      refine ⟨?_, by simp only [List.length_cons]; rw [e4]⟩
      injection e1 with e1
      injection e3 with e3
      rw [List.flatMap_cons, List.append_assoc, ← e3, ← e1]
theorem dec_fall {x : AskV × Option (List Int)} {c : Nat} {zs : List Int} (hc : c ∈ letters) (hb : BytesO x.2) (h : (decF x c).2 = some zs) : x.2 = some (encF (decF x c).1 c ++ zs) := by
  unfold letters at hc
  simp only [List.mem_cons, List.not_mem_nil, or_false] at hc
  rcases hc with rfl | rfl | rfl | rfl | rfl | rfl | rfl | rfl | rfl <;> simp only [encF, decF, Nat.reduceEqDiff, if_true, if_false] at h ⊢
  · exact code_fall hb h
  · exact (num_fall (by decide) hb h).1
  · exact (num_fall (by decide) hb h).1
  · exact (num_fall (by decide) hb h).1
  · exact (num_fall (by decide) hb h).1
  · exact (num_fall (by decide) hb h).1
  · exact (num_fall (by decide) hb h).1
  · cases h1 : (numS 1 x.2).2 with
    | none => rw [h1] at h; cases hn : (numS 1 x.2).1.toNat <;> rw [hn] at h <;> cases h
    | some y1 =>
      obtain ⟨e1, _, e2⟩ := num_fall (by decide) hb h1
      rw [h1] at h
      obtain ⟨e3, e4⟩ := parts_fall _ (hb.of e1) h
      have e5 := (e2 (by decide)).1
      injection e3 with e3
      rw [e4, Int.toNat_of_nonneg e5, List.append_assoc, ← e3]
      exact e1
  · cases h1 : (numS 1 x.2).2 with
    | none => rw [h1] at h; cases hn : (numS 1 x.2).1.toNat <;> rw [hn] at h <;> cases h
    | some y1 =>
      obtain ⟨e1, _, e2⟩ := num_fall (by decide) hb h1
      rw [h1] at h
      obtain ⟨e3, e4⟩ := others_fall _ (hb.of e1) h
      have e5 := (e2 (by decide)).1
      injection e3 with e3
      rw [e4, Int.toNat_of_nonneg e5, List.append_assoc, ← e3]
      exact e1
theorem dec_keep {x : AskV × Option (List Int)} {c d : Nat} (hc : c ∈ letters) (hd : d ∈ letters) (hne : c ≠ d) : encF (decF x d).1 c = encF x.1 c := by
  unfold letters at hc hd
  simp only [List.mem_cons, List.not_mem_nil, or_false] at hc hd
  rcases hc with rfl | rfl | rfl | rfl | rfl | rfl | rfl | rfl | rfl <;> rcases hd with rfl | rfl | rfl | rfl | rfl | rfl | rfl | rfl | rfl <;> first | exact absurd rfl hne | rfl
theorem fold_keep {c : Nat} (hc : c ∈ letters) : ∀ (f : List Nat) (x : AskV × Option (List Int)), (∀ d ∈ f, d ∈ letters) → c ∉ f → encF (f.foldl decF x).1 c = encF x.1 c
  | [], x, _, _ => rfl
  | d :: f, x, h, hn => by
    rw [List.foldl_cons, fold_keep hc f _ (fun e he => h e (by simp [he])) (fun e => hn (by simp [e]))]
    exact dec_keep hc (h d (by simp)) (fun e => hn (by simp [e]))
theorem fold_fall : ∀ (f : List Nat) (x : AskV × Option (List Int)) {zs : List Int}, f.Nodup → (∀ d ∈ f, d ∈ letters) → BytesO x.2 → (f.foldl decF x).2 = some zs → x.2 = some (f.flatMap (encF (f.foldl decF x).1) ++ zs)
  | [], x, zs, _, _, _, h => h
  | c :: f, x, zs, hn, hl, hb, h => by
    rw [List.foldl_cons] at h ⊢
    rw [List.nodup_cons] at hn
    have hcl := hl c (by simp)
    have hfl : ∀ d ∈ f, d ∈ letters := fun d hd => hl d (by simp [hd])
    cases h1 : (decF x c).2 with
    | none =>
      exfalso
      have : ∀ (f : List Nat) (y : AskV × Option (List Int)), (∀ d ∈ f, d ∈ letters) → y.2 = none → (f.foldl decF y).2 = none := by
        intro f
        induction f with
        | nil => exact fun y _ e => e
        | cons d f ih =>
          intro y hd e
          refine ih _ (fun e he => hd e (by simp [he])) ?_
          have hdl := hd d (by simp)
          unfold letters at hdl
          simp only [List.mem_cons, List.not_mem_nil, or_false] at hdl
          obtain ⟨y1, y2⟩ := y
          simp only at e
          subst e
          rcases hdl with rfl | rfl | rfl | rfl | rfl | rfl | rfl | rfl | rfl <;> rfl
      rw [this f _ hfl h1] at h
      cases h
    | some y1 =>
      have e1 := dec_fall hcl hb h1
      have e2 := fold_fall f (decF x c) hn.2 hfl (by rw [h1]; exact hb.of e1) h
      rw [h1] at e2
      injection e2 with e2
      rw [List.flatMap_cons, List.append_assoc, ← e2, fold_keep hcl f _ hfl hn.1]
      exact e1
theorem dec_num {x : AskV × Option (List Int)} {c : Nat} (h : x.1.lot < 9223372036854775808 ∧ x.1.line < 9223372036854775808) : (decF x c).1.lot < 9223372036854775808 ∧ (decF x c).1.line < 9223372036854775808 := by
  have hd := fun l => (decN_bounds l).2
  unfold decF
  repeat' split
  all_goals first
    | exact h
    | exact ⟨h.1, by have := hd (takeS 8 x.2).1; show decN _ < _; omega⟩
    | exact ⟨by have := hd (takeS 8 x.2).1; show decN _ < _; omega, h.2⟩
theorem fold_num : ∀ (f : List Nat) (x : AskV × Option (List Int)), x.1.lot < 9223372036854775808 ∧ x.1.line < 9223372036854775808 → (f.foldl decF x).1.lot < 9223372036854775808 ∧ (f.foldl decF x).1.line < 9223372036854775808
  | [], _, h => h
  | c :: f, x, h => by rw [List.foldl_cons]; exact fold_num f _ (dec_num h)
theorem dec_head {x : AskV × Option (List Int)} {c : Nat} : (decF x c).1.kind = x.1.kind ∧ (decF x c).1.request = x.1.request := by
  unfold decF
  repeat' split
  all_goals exact ⟨rfl, rfl⟩
theorem fold_head : ∀ (f : List Nat) (x : AskV × Option (List Int)), (f.foldl decF x).1.kind = x.1.kind ∧ (f.foldl decF x).1.request = x.1.request
  | [], _ => ⟨rfl, rfl⟩
  | c :: f, x => by rw [List.foldl_cons, (fold_head f _).1, (fold_head f _).2]; exact dec_head
theorem fieldsK_nodup {k : Int} {f : List Nat} (h : fieldsK k = some f) : f.Nodup := by
  obtain ⟨h1, h2⟩ := fieldsK_range h
  rcases (show k = 1 ∨ k = 2 ∨ k = 3 ∨ k = 4 ∨ k = 5 ∨ k = 6 ∨ k = 7 ∨ k = 8 ∨ k = 9 ∨ k = 10 ∨ k = 11 ∨ k = 12 ∨ k = 13 ∨ k = 14 ∨ k = 15 by omega) with rfl | rfl | rfl | rfl | rfl | rfl | rfl | rfl | rfl | rfl | rfl | rfl | rfl | rfl | rfl
  · rw [show fieldsK 1 = some [105, 108] from rfl] at h; injection h with h; subst h; decide
  · rw [show fieldsK 2 = some [105, 112] from rfl] at h; injection h with h; subst h; decide
  · rw [show fieldsK 3 = some [105, 111] from rfl] at h; injection h with h; subst h; decide
  · rw [show fieldsK 4 = some [105, 113] from rfl] at h; injection h with h; subst h; decide
  · rw [show fieldsK 5 = some [105, 113, 100] from rfl] at h; injection h with h; subst h; decide
  · rw [show fieldsK 6 = some [116, 100] from rfl] at h; injection h with h; subst h; decide
  · rw [show fieldsK 7 = some [116] from rfl] at h; injection h with h; subst h; decide
  · rw [show fieldsK 8 = some [116] from rfl] at h; injection h with h; subst h; decide
  · rw [show fieldsK 9 = some [105, 113, 100, 114] from rfl] at h; injection h with h; subst h; decide
  · rw [show fieldsK 10 = some [110] from rfl] at h; injection h with h; subst h; decide
  · rw [show fieldsK 11 = some [110] from rfl] at h; injection h with h; subst h; decide
  · rw [show fieldsK 12 = some [] from rfl] at h; injection h with h; subst h; decide
  · rw [show fieldsK 13 = some [105, 113, 100] from rfl] at h; injection h with h; subst h; decide
  · rw [show fieldsK 14 = some [110] from rfl] at h; injection h with h; subst h; decide
  · rw [show fieldsK 15 = some [105] from rfl] at h; injection h with h; subst h; decide
theorem aput_get0 {zs : List Int} {a : AskV} {n : Nat} (hb : ∀ z ∈ zs, isByte z) (h : getA zs = some (a, n)) : rightA a = true ∧ 9 ≤ n ∧ n ≤ zs.length ∧ putA a = zs.take n ∧ a.lot < 9223372036854775808 ∧ a.line < 9223372036854775808 := by
  have hbo : BytesO (some zs) := fun ys e => by injection e with e; subst e; exact hb
  unfold getA at h
  cases hs : (readA (some zs)).2 with
  | none => rw [hs] at h; cases h
  | some r =>
    rw [hs] at h
    simp only at h
    by_cases hr : rightA (readA (some zs)).1 = true
    · rw [if_pos hr] at h
      injection h with h
      injection h with h1 h2
      subst h1
      obtain ⟨f, hf, _, _, _⟩ := rightA_some hr
      have hk : (readA (some zs)).1.kind = (numS 1 (some zs)).1 := by unfold readA; rw [(fold_head _ _).1]; rfl
      have hq : (readA (some zs)).1.request = (numS 8 (numS 1 (some zs)).2).1 := by unfold readA; rw [(fold_head _ _).2]; rfl
      rw [hk] at hf
      have hn := fold_num ((fieldsK (numS 1 (some zs)).1).getD []) (startA (some zs)) ⟨by show (0 : Int) < _; decide, by show (0 : Int) < _; decide⟩
      have hR : readA (some zs) = f.foldl decF (startA (some zs)) := by unfold readA; rw [hf]; rfl
      cases e1 : (numS 1 (some zs)).2 with
      | none =>
        exfalso
        have : zs.length < 1 := by
          apply Classical.byContradiction
          intro hlt
          unfold numS at e1
          rw [takeS_some (by omega)] at e1
          cases e1
        have hz : zs = [] := List.length_eq_zero_iff.1 (by omega)
        subst hz
        rw [show (numS 1 (some [])).1 = 0 from rfl] at hf
        cases hf
      | some y1 =>
        obtain ⟨g1, _, _⟩ := num_fall (by decide) hbo e1
        have b1 := hbo.of g1
        cases e2 : (numS 8 (some y1)).2 with
        | none =>
          exfalso
          rw [hR] at hs
          have hst : (startA (some zs)).2 = none := by unfold startA; rw [e1]; exact e2
          have : ∀ (f : List Nat) (y : AskV × Option (List Int)), y.2 = none → (f.foldl decF y).2 = none := by
            intro f
            induction f with
            | nil => exact fun y e => e
            | cons d f ih =>
              intro y e
              refine ih _ ?_
              obtain ⟨y1, y2⟩ := y
              simp only at e
              subst e
              unfold decF
              repeat' split
              all_goals rfl
          rw [this f _ hst] at hs
          cases hs
        | some y2 =>
          obtain ⟨g2, _, _⟩ := num_fall (by decide) b1 e2
          have b2 := b1.of g2
          have hst : (startA (some zs)).2 = some y2 := by unfold startA; rw [e1]; exact e2
          have hfs := (fieldsK_some hf).2.2
          rw [hR] at hs
          have g3 := fold_fall f (startA (some zs)) (fieldsK_nodup hf) hfs (by rw [hst]; exact b2) hs
          rw [hst] at g3
          injection g1 with g1
          injection g2 with g2
          injection g3 with g3
          have hp : putA (readA (some zs)).1 ++ r = zs := by
            unfold putA bodyA
            rw [if_pos hr, hk, hq, hf, e1]
            simp only [Option.getD_some]
            rw [hR, List.append_assoc, List.append_assoc, ← g3, ← g2, ← g1]
          have hl : (putA (readA (some zs)).1).length + r.length = zs.length := by rw [← List.length_append, hp]
          have h9 : 9 ≤ (putA (readA (some zs)).1).length := by
            unfold putA bodyA
            rw [if_pos hr, List.length_append, List.length_append, be_length, be_length]
            omega
          refine ⟨hr, by omega, by omega, ?_, ?_⟩
          · have key : ∀ pp : List Int, pp ++ r = zs → pp = zs.take (zs.length - r.length) := fun pp e => by
              subst e
              simp
            rw [← h2]
            exact key _ hp
          · exact hn
    · rw [if_neg hr] at h; cases h
theorem aput_get {zs : List Int} {a : AskV} {n : Nat} (hb : ∀ z ∈ zs, isByte z) (h : getA zs = some (a, n)) : rightA a = true ∧ 9 ≤ n ∧ n ≤ zs.length ∧ putA a = zs.take n ∧ ∀ k, k < n → getA (zs.take k) = none := by
  obtain ⟨h1, h2, h3, h4, _, _⟩ := aput_get0 hb h
  refine ⟨h1, h2, h3, h4, fun k hk => ?_⟩
  cases hg : getA (zs.take k) with
  | none => rfl
  | some x =>
    exfalso
    obtain ⟨b, m⟩ := x
    obtain ⟨k1, k2, k3, k4, k5, k6⟩ := aput_get0 (fun z hz => hb z (List.mem_of_mem_take hz)) hg
    rw [List.length_take] at k3
    rw [List.take_take, Nat.min_eq_left (by omega)] at k4
    have := aget_put k1 k5 k6 (zs.drop m)
    rw [k4, List.take_append_drop, h] at this
    injection this with this
    injection this with _ this
    rw [List.length_take] at this
    omega
end Go.Proofs.YtijmfglgeaaoaaaGreatDoor

