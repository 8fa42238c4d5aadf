/-
 ytglojnmcbochaaagreatdoor: laws and walks on the road to LinesNumbers, joined: AskP AskQ. Conditions stand at each theorem.
-/
import Derived.Test.YtglojnmcbochaaaGreatDoorUCodN
import Derived.Test.YtglojnmcbochaaaGreatDoorUCodQ
namespace Go.Proofs.YtglojnmcbochaaaGreatDoor
set_option linter.unusedVariables false
set_option linter.unusedSimpArgs false

structure AskV where
 kind : Int
 request : Int
 item : List UInt8
 qty : Int
 day : Int
 days : Int
 rank : Int
 lot : Int
 line : Int
 parts : List (List UInt8 × Int)
 others : List (List UInt8)
def AskV.zero : AskV := ⟨0, 0, [], 0, 0, 0, 0, 0, 0, [], []⟩
def fieldsK (k : Int) : Option (List Nat) :=
 if k = 1 then some [105, 108] else if k = 2 then some [105, 112] else if k = 3 then some [105, 111] else if k = 4 then some [105, 113] else if k = 5 then some [105, 113, 100] else if k = 6 then some [116, 100]
 else if k = 7 then some [116] else if k = 8 then some [116] else if k = 9 then some [105, 113, 100, 114] else if k = 10 then some [110] else if k = 11 then some [110] else if k = 12 then some []
 else if k = 13 then some [105, 113, 100] else if k = 14 then some [110] else if k = 15 then some [105] else none
def withinB (n least most : Int) : Bool := decide (least ≤ n) && decide (n ≤ most)
def unlikeB (l : List (List UInt8)) : Bool := (List.range l.length).all fun i => codeL (l.getD i []) && !(l.take i).contains (l.getD i [])
def partsB (l : List (List UInt8 × Int)) : Bool := (l.all fun p => withinB p.2 1 1073741824) && (decide (0 < l.length) && (decide (l.length ≤ 8) && unlikeB (l.map Prod.fst)))
def othersB (l : List (List UInt8)) (item : List UInt8) : Bool := decide (l.length ≤ 4) && (unlikeB l && !l.contains item)
def okF (a : AskV) (c : Nat) : Bool :=
 if c = 105 then codeL a.item else if c = 113 then withinB a.qty 1 1073741824 else if c = 100 then withinB a.day 0 4000 else if c = 108 then withinB a.days 1 2000 else if c = 114 then withinB a.rank 0 99
 else if c = 116 then decide (0 < a.lot) else if c = 110 then decide (0 < a.line) else if c = 112 then partsB a.parts else if c = 111 then othersB a.others a.item else true
def zeroF (a : AskV) (c : Nat) : Bool :=
 if c = 105 then decide (a.item = []) else if c = 113 then decide (a.qty = 0) else if c = 100 then decide (a.day = 0) else if c = 108 then decide (a.days = 0) else if c = 114 then decide (a.rank = 0)
 else if c = 116 then decide (a.lot = 0) else if c = 110 then decide (a.line = 0) else if c = 112 then decide (a.parts = []) else if c = 111 then decide (a.others = []) else true
def letters : List Nat := [105, 113, 100, 108, 114, 116, 110, 112, 111]
def fitF (a : AskV) (f : List Nat) (c : Nat) : Bool := if f.contains c then okF a c else zeroF a c
def rightA (a : AskV) : Bool := match fieldsK a.kind with
 | none => false
 | some f => withinB a.request 0 4611686018427387904 && letters.all (fitF a f)
/-! Got of bytes. -/
def codeS : Option (List Int) → List UInt8 × Option (List Int)
 | none => ([], none)
 | some zs => match getL zs with
  | some l => (l, some (zs.drop (1 + l.length)))
  | none => ([], none)
def partsS : Nat → Option (List Int) → List (List UInt8 × Int) × Option (List Int)
 | 0, s => ([], s)
 | _ + 1, none => ([], none)
 | n + 1, some zs => (((codeS (some zs)).1, (numS 8 (codeS (some zs)).2).1) :: (partsS n (numS 8 (codeS (some zs)).2).2).1, (partsS n (numS 8 (codeS (some zs)).2).2).2)
def othersS : Nat → Option (List Int) → List (List UInt8) × Option (List Int)
 | 0, s => ([], s)
 | _ + 1, none => ([], none)
 | n + 1, some zs => ((codeS (some zs)).1 :: (othersS n (codeS (some zs)).2).1, (othersS n (codeS (some zs)).2).2)
def decF (x : AskV × Option (List Int)) (c : Nat) : AskV × Option (List Int) :=
 if c = 105 then ({ x.1 with item := (codeS x.2).1 }, (codeS x.2).2) else if c = 113 then ({ x.1 with qty := (numS 8 x.2).1 }, (numS 8 x.2).2) else if c = 100 then ({ x.1 with day := (numS 2 x.2).1 }, (numS 2 x.2).2)
 else if c = 108 then ({ x.1 with days := (numS 2 x.2).1 }, (numS 2 x.2).2) else if c = 114 then ({ x.1 with rank := (numS 1 x.2).1 }, (numS 1 x.2).2) else if c = 116 then ({ x.1 with lot := (numS 8 x.2).1 }, (numS 8 x.2).2)
 else if c = 110 then ({ x.1 with line := (numS 8 x.2).1 }, (numS 8 x.2).2) else if c = 112 then ({ x.1 with parts := (partsS (numS 1 x.2).1.toNat (numS 1 x.2).2).1 }, (partsS (numS 1 x.2).1.toNat (numS 1 x.2).2).2)
 else if c = 111 then ({ x.1 with others := (othersS (numS 1 x.2).1.toNat (numS 1 x.2).2).1 }, (othersS (numS 1 x.2).1.toNat (numS 1 x.2).2).2) else x
def startA (s : Option (List Int)) : AskV × Option (List Int) := ({ AskV.zero with kind := (numS 1 s).1, request := (numS 8 (numS 1 s).2).1 }, (numS 8 (numS 1 s).2).2)
/-! What is put is got. -/
theorem unlikeB_codes {l : List (List UInt8)} (h : unlikeB l = true) : ∀ p ∈ l, codeL p = true := by
 intro p hp
 obtain ⟨i, hi, rfl⟩ := List.mem_iff_getElem.1 hp
 have := (List.all_eq_true.1 h) i (List.mem_range.2 hi)
 rw [List.getD_eq_getElem?_getD, List.getElem?_eq_getElem hi] at this
 simp only [Option.getD_some, zD] at this
 exact this.1
theorem withinB_iff {n a b : Int} : withinB n a b = true ↔ a ≤ n ∧ n ≤ b := by unfold withinB; simp
theorem partsB_mem {l : List (List UInt8 × Int)} (h : partsB l = true) : 0 < l.length ∧ l.length ≤ 8 ∧ ∀ p ∈ l, codeL p.1 = true ∧ 1 ≤ p.2 ∧ p.2 ≤ 1073741824 := by
 unfold partsB at h
 simp only [zD, zE] at h
 obtain ⟨h1, h2, h3, h4⟩ := h
 refine ⟨h2, h3, fun p hp => ⟨unlikeB_codes h4 p.1 (List.mem_map_of_mem hp), ?_⟩⟩
 exact withinB_iff.1 ((List.all_eq_true.1 h1) p hp)
theorem othersB_mem {l : List (List UInt8)} {item : List UInt8} (h : othersB l item = true) : l.length ≤ 4 ∧ ∀ p ∈ l, codeL p = true := by
 unfold othersB at h
 simp only [zD, zE] at h
 exact ⟨h.1, unlikeB_codes h.2.1⟩
def setF (a : AskV) (x : AskV) (c : Nat) : AskV :=
 if c = 105 then { x with item := a.item } else if c = 113 then { x with qty := a.qty } else if c = 100 then { x with day := a.day } else if c = 108 then { x with days := a.days } else if c = 114 then { x with rank := a.rank }
 else if c = 116 then { x with lot := a.lot } else if c = 110 then { x with line := a.line } else if c = 112 then { x with parts := a.parts } else if c = 111 then { x with others := a.others } else x
theorem fieldsK_none {k : Int} (h : k < 1 ∨ 15 < k) : fieldsK k = none := by
 unfold fieldsK
 rw [if_neg (by omega), if_neg (by omega), if_neg (by omega), if_neg (by omega), if_neg (by omega), if_neg (by omega), if_neg (by omega), if_neg (by omega), if_neg (by omega), if_neg (by omega), if_neg (by omega), if_neg (by omega), if_neg (by omega), if_neg (by omega), if_neg (by omega)]
theorem fieldsK_range {k : Int} {f : List Nat} (h : fieldsK k = some f) : 1 ≤ k ∧ k ≤ 15 := by
 by_cases hk : k < 1 ∨ 15 < k
 ·rw [fieldsK_none hk] at h; cases h
 ·omega
theorem fieldsK_some {k : Int} {f : List Nat} (h : fieldsK k = some f) : 1 ≤ k ∧ k ≤ 15 ∧ ∀ c ∈ f, c ∈ letters := by
 obtain ⟨h1, h2⟩ := fieldsK_range h
 refine ⟨h1, h2, ?_⟩
 rcases (show k = 1 ∨ k = 2 ∨ k = 3 ∨ k = 4 ∨ k = 5 ∨ k = 6 ∨ k = 7 ∨ k = 8 ∨ k = 9 ∨ k = 10 ∨ k = 11 ∨ k = 12 ∨ k = 13 ∨ k = 14 ∨ k = 15 by omega) with rfl | rfl | rfl | rfl | rfl | rfl | rfl | rfl | rfl | rfl | rfl | rfl | rfl | rfl | rfl
 ·rw [show fieldsK 1 = some [105, 108] from rfl] at h; injection h with h; subst h; decide
 ·rw [show fieldsK 2 = some [105, 112] from rfl] at h; injection h with h; subst h; decide
 ·rw [show fieldsK 3 = some [105, 111] from rfl] at h; injection h with h; subst h; decide
 ·rw [show fieldsK 4 = some [105, 113] from rfl] at h; injection h with h; subst h; decide
 ·rw [show fieldsK 5 = some [105, 113, 100] from rfl] at h; injection h with h; subst h; decide
 ·rw [show fieldsK 6 = some [116, 100] from rfl] at h; injection h with h; subst h; decide
 ·rw [show fieldsK 7 = some [116] from rfl] at h; injection h with h; subst h; decide
 ·rw [show fieldsK 8 = some [116] from rfl] at h; injection h with h; subst h; decide
 ·rw [show fieldsK 9 = some [105, 113, 100, 114] from rfl] at h; injection h with h; subst h; decide
 ·rw [show fieldsK 10 = some [110] from rfl] at h; injection h with h; subst h; decide
 ·rw [show fieldsK 11 = some [110] from rfl] at h; injection h with h; subst h; decide
 ·rw [show fieldsK 12 = some [] from rfl] at h; injection h with h; subst h; decide
 ·rw [show fieldsK 13 = some [105, 113, 100] from rfl] at h; injection h with h; subst h; decide
 ·rw [show fieldsK 14 = some [110] from rfl] at h; injection h with h; subst h; decide
 ·rw [show fieldsK 15 = some [105] from rfl] at h; injection h with h; subst h; decide
theorem rightA_some {a : AskV} (h : rightA a = true) : ∃ f, fieldsK a.kind = some f ∧ 0 ≤ a.request ∧ a.request ≤ 4611686018427387904 ∧ ∀ c ∈ letters, fitF a f c = true := by
 unfold rightA at h
 split at h
 ·cases h
 ·rename_i f hf
  simp only [zD] at h
  have h1 := withinB_iff.1 h.1
  exact ⟨f, hf, h1.1, h1.2, List.all_eq_true.1 h.2⟩
theorem set_all {a : AskV} {f : List Nat} (hf : fieldsK a.kind = some f) (h : ∀ c ∈ letters, fitF a f c = true) : f.foldl (setF a) { AskV.zero with kind := a.kind, request := a.request } = a := by
 have h1 := h 105 (by decide)
 have h2 := h 113 (by decide)
 have h3 := h 100 (by decide)
 have h4 := h 108 (by decide)
 have h5 := h 114 (by decide)
 have h6 := h 116 (by decide)
 have h7 := h 110 (by decide)
 have h8 := h 112 (by decide)
 have h9 := h 111 (by decide)
 clear h
 obtain ⟨kind, request, item, qty, day, days, rank, lot, line, parts, others⟩ := a
 simp only at hf
 obtain ⟨g1, g2⟩ := fieldsK_range hf
 rcases (show kind = 1 ∨ kind = 2 ∨ kind = 3 ∨ kind = 4 ∨ kind = 5 ∨ kind = 6 ∨ kind = 7 ∨ kind = 8 ∨ kind = 9 ∨ kind = 10 ∨ kind = 11 ∨ kind = 12 ∨ kind = 13 ∨ kind = 14 ∨ kind = 15 by omega) with rfl | rfl | rfl | rfl | rfl | rfl | rfl | rfl | rfl | rfl | rfl | rfl | rfl | rfl | rfl
 ·rw [show fieldsK 1 = some [105, 108] from rfl] at hf; injection hf with hf; subst hf; simp [fitF, okF, zeroF] at h1 h2 h3 h4 h5 h6 h7 h8 h9; simp [setF, AskV.zero, *]
 ·rw [show fieldsK 2 = some [105, 112] from rfl] at hf; injection hf with hf; subst hf; simp [fitF, okF, zeroF] at h1 h2 h3 h4 h5 h6 h7 h8 h9; simp [setF, AskV.zero, *]
 ·rw [show fieldsK 3 = some [105, 111] from rfl] at hf; injection hf with hf; subst hf; simp [fitF, okF, zeroF] at h1 h2 h3 h4 h5 h6 h7 h8 h9; simp [setF, AskV.zero, *]
 ·rw [show fieldsK 4 = some [105, 113] from rfl] at hf; injection hf with hf; subst hf; simp [fitF, okF, zeroF] at h1 h2 h3 h4 h5 h6 h7 h8 h9; simp [setF, AskV.zero, *]
 ·rw [show fieldsK 5 = some [105, 113, 100] from rfl] at hf; injection hf with hf; subst hf; simp [fitF, okF, zeroF] at h1 h2 h3 h4 h5 h6 h7 h8 h9; simp [setF, AskV.zero, *]
 ·rw [show fieldsK 6 = some [116, 100] from rfl] at hf; injection hf with hf; subst hf; simp [fitF, okF, zeroF] at h1 h2 h3 h4 h5 h6 h7 h8 h9; simp [setF, AskV.zero, *]
 ·rw [show fieldsK 7 = some [116] from rfl] at hf; injection hf with hf; subst hf; simp [fitF, okF, zeroF] at h1 h2 h3 h4 h5 h6 h7 h8 h9; simp [setF, AskV.zero, *]
 ·rw [show fieldsK 8 = some [116] from rfl] at hf; injection hf with hf; subst hf; simp [fitF, okF, zeroF] at h1 h2 h3 h4 h5 h6 h7 h8 h9; simp [setF, AskV.zero, *]
 ·rw [show fieldsK 9 = some [105, 113, 100, 114] from rfl] at hf; injection hf with hf; subst hf; simp [fitF, okF, zeroF] at h1 h2 h3 h4 h5 h6 h7 h8 h9; simp [setF, AskV.zero, *]
 ·rw [show fieldsK 10 = some [110] from rfl] at hf; injection hf with hf; subst hf; simp [fitF, okF, zeroF] at h1 h2 h3 h4 h5 h6 h7 h8 h9; simp [setF, AskV.zero, *]
 ·rw [show fieldsK 11 = some [110] from rfl] at hf; injection hf with hf; subst hf; simp [fitF, okF, zeroF] at h1 h2 h3 h4 h5 h6 h7 h8 h9; simp [setF, AskV.zero, *]
 ·rw [show fieldsK 12 = some [] from rfl] at hf; injection hf with hf; subst hf; simp [fitF, okF, zeroF] at h1 h2 h3 h4 h5 h6 h7 h8 h9; simp [setF, AskV.zero, *]
 ·rw [show fieldsK 13 = some [105, 113, 100] from rfl] at hf; injection hf with hf; subst hf; simp [fitF, okF, zeroF] at h1 h2 h3 h4 h5 h6 h7 h8 h9; simp [setF, AskV.zero, *]
 ·rw [show fieldsK 14 = some [110] from rfl] at hf; injection hf with hf; subst hf; simp [fitF, okF, zeroF] at h1 h2 h3 h4 h5 h6 h7 h8 h9; simp [setF, AskV.zero, *]
 ·rw [show fieldsK 15 = some [105] from rfl] at hf; injection hf with hf; subst hf; simp [fitF, okF, zeroF] at h1 h2 h3 h4 h5 h6 h7 h8 h9; simp [setF, AskV.zero, *]
/-! What is got is put. -/
def BytesO (s : Option (List Int)) : Prop := ∀ ys, s = some ys → ∀ y ∈ ys, isByte y
theorem BytesO.of {l r : List Int} {s : Option (List Int)} (h : BytesO s) (e : s = some (l ++ r)) : BytesO (some r) := fun ys e' y hy => by
 injection e' with e'
 subst e'
 exact h _ e y (by simp [hy])
end Go.Proofs.YtglojnmcbochaaaGreatDoor

namespace Go.Proofs.YtglojnmcbochaaaGreatDoor
set_option linter.unusedVariables false
set_option linter.unusedSimpArgs false

theorem fit_prog {a : AskV} {f : List Nat} (hf : ∀ c ∈ f, c ∈ letters) : letters.all (fitF a f) = (f.all (okF a) && letters.all (fun c => f.contains c || zeroF a c)) := by
 apply Bool.eq_iff_iff.2
 simp only [zD, List.all_eq_true, Bool.or_eq_true]
 constructor
 ·intro h
  refine ⟨fun c hc => ?_, fun c hc => ?_⟩
  ·have := h c (hf c hc)
   unfold fitF at this
   rw [if_pos (by simpa using hc)] at this
   exact this
  ·have := h c hc
   unfold fitF at this
   by_cases hm : f.contains c = true
   ·exact .inl hm
   ·rw [if_neg hm] at this; exact .inr this
 ·rintro ⟨h1, h2⟩ c hc
  unfold fitF
  by_cases hm : f.contains c = true
  ·rw [if_pos hm]; exact h1 c (by simpa using hm)
  ·rw [if_neg hm]
   rcases h2 c hc with h | h
   ·exact absurd h hm
   ·exact h
theorem contains_take (l : List (List UInt8)) (x : List UInt8) (i : Nat) (hi : i ≤ l.length) : (!(l.take i).contains x) = (List.range i).all (fun k => !(l.getD k [] == x)) := by
 apply Bool.eq_iff_iff.2
 simp only [Bool.not_eq_true', List.all_eq_true, List.mem_range]
 constructor
 ·intro h k hk
  have hkl : k < l.length := by omega
  apply Bool.eq_false_iff.2
  intro he
  have hm : x ∈ l.take i := by
   rw [List.mem_take_iff_getElem]
   refine ⟨k, by omega, ?_⟩
   rw [List.getD_eq_getElem?_getD, List.getElem?_eq_getElem hkl] at he
   simpa using he
  have : (l.take i).contains x = true := by simpa using hm
  rw [h] at this
  cases this
 ·intro h
  apply Bool.eq_false_iff.2
  intro he
  have hm : x ∈ l.take i := by simpa using he
  rw [List.mem_take_iff_getElem] at hm
  obtain ⟨k, hk, e⟩ := hm
  have := h k (by omega)
  rw [List.getD_eq_getElem?_getD, List.getElem?_eq_getElem (by omega)] at this
  simp [e] at this
/-! The letters as bytes. -/
def fBytes (f : List Nat) : List UInt8 := f.map UInt8.ofNat
def fBA (f : List Nat) : ByteArray := ⟨(fBytes f).toArray⟩
def kindsL : List (List Nat) := [[105, 108], [105, 112], [105, 111], [105, 113], [105, 113, 100], [116, 100], [116], [105, 113, 100, 114], [110], [], [105]]
theorem fieldsK_kinds {k : Int} {f : List Nat} (h : fieldsK k = some f) : f ∈ kindsL := by
 obtain ⟨h1, h2⟩ := fieldsK_range h
 rcases (show k = 1 ∨ k = 2 ∨ k = 3 ∨ k = 4 ∨ k = 5 ∨ k = 6 ∨ k = 7 ∨ k = 8 ∨ k = 9 ∨ k = 10 ∨ k = 11 ∨ k = 12 ∨ k = 13 ∨ k = 14 ∨ k = 15 by omega) with rfl | rfl | rfl | rfl | rfl | rfl | rfl | rfl | rfl | rfl | rfl | rfl | rfl | rfl | rfl
 all_goals (unfold fieldsK at h; simp only [Int.reduceEq, if_true, if_false] at h; injection h with h; subst h; decide)
theorem kinds_letters {f : List Nat} (h : f ∈ kindsL) : f.length ≤ 4 ∧ ∀ c ∈ f, c ∈ letters := by
 unfold kindsL at h
 simp only [List.mem_cons, List.not_mem_nil, or_false] at h
 rcases h with rfl | rfl | rfl | rfl | rfl | rfl | rfl | rfl | rfl | rfl | rfl <;> decide
theorem kinds_contains {f : List Nat} (h : f ∈ kindsL) : ∀ c ∈ letters, (fBytes f).contains (UInt8.ofNat c) = f.contains c := by
 unfold kindsL at h
 simp only [List.mem_cons, List.not_mem_nil, or_false] at h
 rcases h with rfl | rfl | rfl | rfl | rfl | rfl | rfl | rfl | rfl | rfl | rfl <;> decide
theorem fBA_size (f : List Nat) : (fBA f).size = f.length := by
 show (fBytes f).toArray.size = _
 simp [fBytes]
theorem fBA_data (f : List Nat) : (fBA f).data.toList = fBytes f := rfl
theorem letter_at {f : List Nat} (h : f ∈ kindsL) {p : Nat} (hp : p < (fBA f).size) : ∃ c, c ∈ letters ∧ ((fBA f)[p]'hp).toNat = c ∧ f.take (p + 1) = f.take p ++ [c] ∧ c < 128 := by
 have hl : p < f.length := by rw [fBA_size] at hp; exact hp
 have hm := (kinds_letters h).2 _ (List.getElem_mem hl)
 refine ⟨f[p], hm, ?_, ?_, ?_⟩
 ·show ((fBytes f).toArray[p]'(by simpa [fBytes] using hl)).toNat = _
  simp only [fBytes, List.getElem_toArray, List.getElem_map]
  unfold letters at hm
  simp only [List.mem_cons, List.not_mem_nil, or_false] at hm
  rcases hm with e | e | e | e | e | e | e | e | e <;> rw [e] <;> rfl
 ·rw [List.take_succ_eq_append_getElem hl]
 ·unfold letters at hm
  simp only [List.mem_cons, List.not_mem_nil, or_false] at hm
  omega

/-! The program's shape, step by step: the fields of the kind put into a bare command. -/
def setB (a x : AskV) (c : Nat) : AskV := if c = 112 ∨ c = 111 then x else setF a x c
def bareA (a : AskV) (f : List Nat) : AskV := f.foldl (setB a) ⟨a.kind, a.request, [], 0, 0, 0, 0, 0, 0, [], []⟩
def okTo (a : AskV) (f : List Nat) : Bool := f.all (okF a)
theorem bareA_snoc (a : AskV) (f : List Nat) (c : Nat) : bareA a (f ++ [c]) = setB a (bareA a f) c := by unfold bareA; rw [List.foldl_append]; rfl
theorem okTo_snoc (a : AskV) (f : List Nat) (c : Nat) : okTo a (f ++ [c]) = (okTo a f && okF a c) := by unfold okTo; rw [List.all_append]; simp
def plainB (a b : AskV) : Bool := decide (a.kind = b.kind) && decide (a.request = b.request) && decide (a.qty = b.qty) && decide (a.item = b.item) && decide (a.day = b.day) && decide (a.days = b.days) && decide (a.rank = b.rank) && decide (a.lot = b.lot) && decide (a.line = b.line)
theorem plainB_nil (kind request : Int) (item : List UInt8) (qty day days rank lot line : Int) (parts : List (List UInt8 × Int)) (others : List (List UInt8)) : plainB ⟨kind, request, item, qty, day, days, rank, lot, line, parts, others⟩ (bareA ⟨kind, request, item, qty, day, days, rank, lot, line, parts, others⟩ []) = (decide (qty = 0) && decide (item = []) && decide (day = 0) && decide (days = 0) && decide (rank = 0) && decide (lot = 0) && decide (line = 0)) := by
 have e : plainB ⟨kind, request, item, qty, day, days, rank, lot, line, parts, others⟩ (bareA ⟨kind, request, item, qty, day, days, rank, lot, line, parts, others⟩ []) = (decide (kind = kind) && decide (request = request) && decide (qty = 0) && decide (item = []) && decide (day = 0) && decide (days = 0) && decide (rank = 0) && decide (lot = 0) && decide (line = 0)) := rfl
 rw [e]
 simp
theorem rightA_prog {a : AskV} {f : List Nat} (hf : fieldsK a.kind = some f) : rightA a = (withinB a.request 0 4611686018427387904 && (okTo a f && ((decide (a.parts = []) || f.contains 112) && ((decide (a.others = []) || f.contains 111) && plainB a (bareA a f))))) := by
 have hk := fieldsK_kinds hf
 unfold rightA
 rw [hf]
 simp only
 congr 1
 rw [fit_prog (kinds_letters hk).2]
 unfold okTo
 congr 1
 unfold kindsL at hk
 simp only [List.mem_cons, List.not_mem_nil, or_false] at hk
 obtain ⟨kind, request, item, qty, day, days, rank, lot, line, parts, others⟩ := a
 rcases hk with rfl | rfl | rfl | rfl | rfl | rfl | rfl | rfl | rfl | rfl | rfl
 all_goals
  try rw [plainB_nil]
  simp only [letters, List.all_cons, List.all_nil, zeroF, plainB, bareA, AskV.zero, List.foldl_cons, List.foldl_nil, setB, setF, List.contains_cons, List.contains_nil, Nat.reduceEqDiff, Nat.reduceBEq, if_true, if_false, or_true, or_false, true_or, false_or, decide_true, Bool.true_and, Bool.and_true, Bool.or_false, Bool.false_or, Bool.true_or, Bool.or_true]
  apply Bool.eq_iff_iff.2
  simp only [zD, zE]
  clear hf
  constructor <;> (intro h; simp_all)
/-! The document's shape: by the kind's fields. -/
end Go.Proofs.YtglojnmcbochaaaGreatDoor

