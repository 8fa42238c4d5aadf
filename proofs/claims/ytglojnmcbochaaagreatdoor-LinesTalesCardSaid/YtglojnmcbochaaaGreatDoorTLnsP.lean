/-
  ytglojnmcbochaaagreatdoor: laws and walks on the road to LinesTales, joined: AskA WrdP LnsP. Conditions stand at each theorem.
-/
import Derived.Test.YtglojnmcbochaaaGreatDoorTAskQ
import Derived.Test.YtglojnmcbochaaaGreatDoorTElt
import Derived.Lib.SlicesS
import Derived.Lib.Join
import Derived.Test.YtglojnmcbochaaaGreatDoorTCodN
namespace Go.Proofs.YtglojnmcbochaaaGreatDoor
open Go.RowKit Go.Maps
set_option linter.unusedVariables false

/-- A slice's three words. -/
structure Sl where
  A : Option Addr
  n : Nat
  c : Nat
def strV (l : List UInt8) : Value := .string ⟨l.toArray⟩
theorem strV_ba (s : ByteArray) : strV s.data.toList = .string s := rfl
/-- The cells of texts, and of parts. -/
def textC (l : List (List UInt8)) : List Value := l.map strV
def partC (l : List (List UInt8 × Int)) : List Value := l.flatMap fun p => [strV p.1, .int .i64 p.2]
def itemAt (l : List (List UInt8 × Int)) (i : Nat) : List UInt8 := (l.getD i ([], 0)).1
def qtyAt (l : List (List UInt8 × Int)) (i : Nat) : Int := (l.getD i ([], 0)).2
theorem textC_length (l : List (List UInt8)) : (textC l).length = l.length := by simp [textC]
theorem textC_append (a b : List (List UInt8)) : textC (a ++ b) = textC a ++ textC b := by simp [textC]
theorem textC_get (l : List (List UInt8)) (i : Nat) (h : i < l.length) : (textC l)[i]? = some (strV (l.getD i [])) := by
  simp [textC, List.getD_eq_getElem?_getD, h]
theorem textC_one (l : List (List UInt8)) : ∀ v ∈ textC l, v.oneCell' = true := by
  intro v hv
  obtain ⟨p, _, rfl⟩ := List.mem_map.1 hv
  rfl
theorem partC_length (l : List (List UInt8 × Int)) : (partC l).length = l.length * 2 := by
  induction l with
  | nil => rfl
  | cons p l ih =>
    show ([strV p.1, Value.int .i64 p.2] ++ partC l).length = _
    rw [List.length_append, ih, List.length_cons]
    simp
    omega
theorem partC_cons (p : List UInt8 × Int) (l : List (List UInt8 × Int)) : partC (p :: l) = strV p.1 :: .int .i64 p.2 :: partC l := rfl
theorem partC_append (a b : List (List UInt8 × Int)) : partC (a ++ b) = partC a ++ partC b := by simp [partC]
theorem partC_fst (l : List (List UInt8 × Int)) (i : Nat) (h : i < l.length) : (partC l)[i * 2]? = some (strV (itemAt l i)) := by
  induction l generalizing i with
  | nil => simp at h
  | cons p l ih =>
    cases i with
    | zero => rfl
    | succ i =>
      rw [partC_cons, show (i + 1) * 2 = i * 2 + 1 + 1 by omega, List.getElem?_cons_succ, List.getElem?_cons_succ, ih i (by simpa using h)]
      rfl
theorem partC_snd (l : List (List UInt8 × Int)) (i : Nat) (h : i < l.length) : (partC l)[i * 2 + 1]? = some (.int .i64 (qtyAt l i)) := by
  induction l generalizing i with
  | nil => simp at h
  | cons p l ih =>
    cases i with
    | zero => rfl
    | succ i =>
      rw [partC_cons, show (i + 1) * 2 + 1 = i * 2 + 1 + 1 + 1 by omega, List.getElem?_cons_succ, List.getElem?_cons_succ, ih i (by simpa using h)]
      rfl
theorem partC_one (l : List (List UInt8 × Int)) : ∀ v ∈ partC l, v.oneCell' = true := by
  intro v hv
  obtain ⟨p, _, hp⟩ := List.mem_flatMap.1 hv
  simp only [List.mem_cons, List.not_mem_nil, or_false] at hp
  rcases hp with rfl | rfl <;> rfl
/-- A slice of texts. -/
structure SlT (w : World) (s : Sl) (l : List (List UInt8)) : Prop where
  cel : CelR w s.A s.n (textC l)
  len : l.length = s.n
  nil_ : s.A = none → s.n = 0 ∧ s.c = 0
  le : s.n ≤ s.c
  max : s.c ≤ maxLen
/-- A slice of parts. -/
structure SlQ (w : World) (s : Sl) (l : List (List UInt8 × Int)) : Prop where
  cel : CelR w s.A (s.n * 2) (partC l)
  len : l.length = s.n
  nil_ : s.A = none → s.n = 0 ∧ s.c = 0
  le : s.n ≤ s.c
  max : s.c ≤ maxLen
structure AskS where
  P : Sl
  O : Sl
/-- What a command's slices hold. -/
structure AskIs (w : World) (a : AskV) (S : AskS) : Prop where
  parts : SlQ w S.P a.parts
  others : SlT w S.O a.others
/-- A command's cells. -/
def askC (a : AskV) (S : AskS) : Array Value :=
  #[.int .u8 a.kind, .int .i64 a.request, strV a.item, .int .i64 a.qty, .int .i64 a.day, .int .i64 a.days, .int .i64 a.rank, .int .i64 a.lot, .int .i64 a.line, .slice S.P.A S.P.n S.P.c, .slice S.O.A S.O.n S.O.c]
def strOk (l : List UInt8) : Prop := l.length ≤ 9223372036854775807
/-- The numbers are of their types, the texts are no longer than texts may be. -/
structure AskV.Ok (a : AskV) : Prop where
  kind : isByte a.kind
  request : I64 a.request
  item : strOk a.item
  qty : I64 a.qty
  day : I64 a.day
  days : I64 a.days
  rank : I64 a.rank
  lot : I64 a.lot
  line : I64 a.line
  parts : ∀ p ∈ a.parts, strOk p.1 ∧ I64 p.2
  others : ∀ s ∈ a.others, strOk s
section
variable {w w' : World}
theorem SlT.fresh {s : Sl} {l : List (List UInt8)} (h : SlT w s l) (ht : Turned (fun _ => False) w w') : SlT w' s l := ⟨h.cel.fresh ht, h.len, h.nil_, h.le, h.max⟩
theorem SlQ.fresh {s : Sl} {l : List (List UInt8 × Int)} (h : SlQ w s l) (ht : Turned (fun _ => False) w w') : SlQ w' s l := ⟨h.cel.fresh ht, h.len, h.nil_, h.le, h.max⟩
theorem AskIs.fresh {a : AskV} {S : AskS} (h : AskIs w a S) (ht : Turned (fun _ => False) w w') : AskIs w' a S := ⟨h.parts.fresh ht, h.others.fresh ht⟩
theorem SlT.turned {W : Nat → Prop} {s : Sl} {l : List (List UInt8)} (h : SlT w s l) (ht : Turned W w w') (hW : ∀ b o, s.A = some ⟨b, o, none⟩ → ¬ W b) : SlT w' s l := ⟨h.cel.turned ht hW, h.len, h.nil_, h.le, h.max⟩
theorem SlQ.turned {W : Nat → Prop} {s : Sl} {l : List (List UInt8 × Int)} (h : SlQ w s l) (ht : Turned W w w') (hW : ∀ b o, s.A = some ⟨b, o, none⟩ → ¬ W b) : SlQ w' s l := ⟨h.cel.turned ht hW, h.len, h.nil_, h.le, h.max⟩
theorem SlT.cells {s : Sl} {l : List (List UInt8)} (h : SlT w s l) (hn : 0 < s.n) : ∃ b off, s.A = some ⟨b, off, none⟩ ∧ ∀ i, i < s.n → w.cell? ⟨b, off + i, none⟩ = some (strV (l.getD i [])) := by
  obtain ⟨b, off, e, hc⟩ := h.cel.cell hn
  refine ⟨b, off, e, fun i hi => ?_⟩
  rw [hc i hi, textC_get l i (by rw [h.len]; exact hi)]
theorem SlQ.cells {s : Sl} {l : List (List UInt8 × Int)} (h : SlQ w s l) (hn : 0 < s.n) : ∃ b off, s.A = some ⟨b, off, none⟩ ∧ ∀ i, i < s.n → w.cell? ⟨b, off + i * 2, none⟩ = some (strV (itemAt l i)) ∧ w.cell? ⟨b, off + i * 2 + 1, none⟩ = some (.int .i64 (qtyAt l i)) := by
  obtain ⟨b, off, e, hc⟩ := h.cel.cell (by omega)
  refine ⟨b, off, e, fun i hi => ⟨?_, ?_⟩⟩
  · rw [hc (i * 2) (by omega), partC_fst l i (by rw [h.len]; exact hi)]
  · rw [Nat.add_assoc, hc (i * 2 + 1) (by omega), partC_snd l i (by rw [h.len]; exact hi)]
end
/-! slices.Contains at texts -/
def baOf (l : List UInt8) : ByteArray := ⟨l.toArray⟩
theorem baOf_inj {a b : List UInt8} : baOf a = baOf b ↔ a = b := by
  unfold baOf
  constructor
  · intro h
    injection h with h
    simpa using congrArg Array.toList h
  · rintro rfl; rfl
theorem getD_baOf (l : List (List UInt8)) (i : Nat) : (l.map baOf).getD i ByteArray.empty = baOf (l.getD i []) := by
  rw [List.getD_eq_getElem?_getD, List.getD_eq_getElem?_getD, List.getElem?_map]
  cases l[i]? <;> rfl
theorem containsS_map (l : List (List UInt8)) (x : List UInt8) (k : Nat) : Lib.containsS ((l.map baOf).take k) (baOf x) = (l.take k).contains x := by
  rw [Bool.eq_iff_iff, Lib.containsS_iff, ← List.map_take, List.contains_iff_mem, List.mem_map]
  constructor
  · rintro ⟨y, hy, e⟩
    rw [baOf_inj] at e
    exact e ▸ hy
  · exact fun h => ⟨x, h, rfl⟩
/-! unlike, step by step -/
def unlikeTo (l : List (List UInt8)) (j : Nat) : Bool := (List.range j).all fun i => codeL (l.getD i []) && !(l.take i).contains (l.getD i [])
theorem unlikeTo_succ (l : List (List UInt8)) (j : Nat) : unlikeTo l (j + 1) = (unlikeTo l j && (codeL (l.getD j []) && !(l.take j).contains (l.getD j []))) := by
  unfold unlikeTo
  rw [List.range_succ, List.all_append]
  simp
theorem unlikeTo_mono {l : List (List UInt8)} {j k : Nat} (h : unlikeTo l k = true) (hj : j ≤ k) : unlikeTo l j = true := by
  unfold unlikeTo at *
  rw [List.all_eq_true] at *
  intro i hi
  exact h i (List.mem_range.2 (by have := List.mem_range.1 hi; omega))
theorem unlike_no {l : List (List UInt8)} {j : Nat} (hj : j < l.length) (h : (codeL (l.getD j []) && !(l.take j).contains (l.getD j [])) = false) : unlikeB l = false := by
  cases hu : unlikeB l with
  | false => rfl
  | true =>
    have h1 := unlikeTo_mono (l := l) (k := l.length) hu (show j + 1 ≤ l.length by omega)
    rw [unlikeTo_succ, h] at h1
    simp at h1
end Go.Proofs.YtglojnmcbochaaaGreatDoor

namespace Go.Proofs.YtglojnmcbochaaaGreatDoor
set_option linter.unusedVariables false
set_option linter.unusedSimpArgs false

/-- What stands between the bytes 32, the empty ones too. -/
def pieces : List UInt8 → List (List UInt8)
  | [] => [[]]
  | c :: l => if c = 32 then [] :: pieces l else match pieces l with
    | [] => [[c]]
    | p :: ps => (c :: p) :: ps
/-- A line's words. -/
def wordsL (l : List UInt8) : List (List UInt8) := (pieces l).filter fun p => !p.isEmpty

def putC (c : UInt8) : List (List UInt8) → List (List UInt8)
  | [] => [[c]]
  | p :: ps => (c :: p) :: ps
theorem pieces_blank (l : List UInt8) : pieces (32 :: l) = [] :: pieces l := by
  conv => lhs; unfold pieces
  rw [if_pos rfl]
theorem pieces_other {c : UInt8} (l : List UInt8) (h : c ≠ 32) : pieces (c :: l) = putC c (pieces l) := by
  conv => lhs; unfold pieces
  rw [if_neg h]
  rfl
theorem pieces_ne (l : List UInt8) : pieces l ≠ [] := by
  cases l with
  | nil => simp [pieces]
  | cons c l =>
    unfold pieces
    split
    · simp
    · split <;> simp
theorem pieces_none {l : List UInt8} (h : ∀ c ∈ l, c ≠ 32) : pieces l = [l] := by
  induction l with
  | nil => rfl
  | cons c l ih =>
    unfold pieces
    rw [if_neg (h c (by simp)), ih (fun d hd => h d (by simp [hd]))]
/-- What stands ahead of the first 32; then the rest. -/
theorem pieces_at {a : List UInt8} (b : List UInt8) (h : ∀ c ∈ a, c ≠ 32) : pieces (a ++ 32 :: b) = a :: pieces b := by
  induction a with
  | nil => simp [pieces]
  | cons c a ih =>
    rw [List.cons_append, pieces_other _ (h c (by simp)), ih (fun d hd => h d (by simp [hd]))]
    rfl
theorem pieces_app (a b : List UInt8) : pieces (a ++ 32 :: b) = pieces a ++ pieces b := by
  induction a with
  | nil => simp [pieces]
  | cons c a ih =>
    rw [List.cons_append]
    by_cases hc : c = 32
    · subst hc
      rw [pieces_blank, pieces_blank, ih, List.cons_append]
    · rw [pieces_other _ hc, pieces_other _ hc, ih]
      cases hp : pieces a with
      | nil => exact absurd hp (pieces_ne a)
      | cons p ps => rfl
theorem words_nil : wordsL [] = [] := rfl
theorem words_app (a b : List UInt8) : wordsL (a ++ 32 :: b) = wordsL a ++ wordsL b := by
  unfold wordsL
  rw [pieces_app, List.filter_append]
theorem words_blank (b : List UInt8) : wordsL (32 :: b) = wordsL b := by
  have := words_app [] b
  simpa [words_nil] using this
theorem words_word {p : List UInt8} (h : ∀ c ∈ p, c ≠ 32) (h0 : p ≠ []) : wordsL p = [p] := by
  unfold wordsL
  rw [pieces_none h]
  cases p with
  | nil => exact absurd rfl h0
  | cons c p => rfl
/-- A word, then a blank or the end. -/
theorem words_cons {p : List UInt8} (b : List UInt8) (h : ∀ c ∈ p, c ≠ 32) (h0 : p ≠ []) : wordsL (p ++ 32 :: b) = p :: wordsL b := by
  rw [words_app, words_word h h0]
  rfl
theorem pieces_sum (l : List UInt8) : ((pieces l).map fun p => p.length + 1).sum = l.length + 1 := by
  induction l with
  | nil => rfl
  | cons c l ih =>
    by_cases hc : c = 32
    · subst hc
      rw [pieces_blank, List.map_cons, List.sum_cons, ih]
      simp
      omega
    · rw [pieces_other _ hc]
      cases hp : pieces l with
      | nil => exact absurd hp (pieces_ne l)
      | cons p ps =>
        rw [hp] at ih
        simp only [putC, List.map_cons, List.sum_cons, List.length_cons] at ih ⊢
        omega
theorem full_sum (ps : List (List UInt8)) : 2 * (ps.filter fun p => !p.isEmpty).length ≤ (ps.map fun p => p.length + 1).sum := by
  induction ps with
  | nil => simp
  | cons p ps ih =>
    rw [List.filter_cons, List.map_cons, List.sum_cons]
    split
    · rename_i h
      cases p with
      | nil => cases h
      | cons c p =>
        simp only [List.length_cons]
        omega
    · omega
theorem words_few (l : List UInt8) : 2 * (wordsL l).length ≤ l.length + 1 := by
  have := full_sum (pieces l)
  rw [pieces_sum] at this
  exact this
theorem pieces_mem {l p : List UInt8} (h : p ∈ pieces l) : p.length ≤ l.length ∧ ∀ c ∈ p, c ∈ l ∧ c ≠ 32 := by
  induction l generalizing p with
  | nil =>
    unfold pieces at h
    rw [List.mem_singleton] at h
    subst h
    simp
  | cons c l ih =>
    unfold pieces at h
    split at h
    · rcases List.mem_cons.1 h with rfl | h
      · simp
      · obtain ⟨h1, h2⟩ := ih h
        exact ⟨by simp; omega, fun d hd => ⟨by simp [(h2 d hd).1], (h2 d hd).2⟩⟩
    · rename_i hc
      split at h
      · rw [List.mem_singleton] at h
        subst h
        exact ⟨by simp, fun d hd => by
          rw [List.mem_singleton] at hd
          subst hd
          exact ⟨by simp, hc⟩⟩
      · rename_i q qs e
        rcases List.mem_cons.1 h with rfl | h
        · obtain ⟨h1, h2⟩ := ih (p := q) (by rw [e]; simp)
          refine ⟨by simp; omega, fun d hd => ?_⟩
          rcases List.mem_cons.1 hd with rfl | hd
          · exact ⟨by simp, hc⟩
          · exact ⟨by simp [(h2 d hd).1], (h2 d hd).2⟩
        · obtain ⟨h1, h2⟩ := ih (p := p) (by rw [e]; simp [h])
          exact ⟨by simp; omega, fun d hd => ⟨by simp [(h2 d hd).1], (h2 d hd).2⟩⟩
theorem words_mem {l p : List UInt8} (h : p ∈ wordsL l) : p ≠ [] ∧ p.length ≤ l.length ∧ ∀ c ∈ p, c ∈ l ∧ c ≠ 32 := by
  unfold wordsL at h
  obtain ⟨h1, h2⟩ := List.mem_filter.1 h
  refine ⟨?_, pieces_mem h1⟩
  rintro rfl
  simp at h2
/-- Words with one blank between them, as one joins them. -/
theorem join32 (p : List UInt8) (l : List (List UInt8)) : Go.Lib.join (p :: l) [32] = p ++ l.flatMap fun q => 32 :: q := by
  rw [Go.Lib.join_cons]
  unfold Go.Lib.joinTail
  rw [List.flatMap_def]
  rfl
end Go.Proofs.YtglojnmcbochaaaGreatDoor

namespace Go.Proofs.YtglojnmcbochaaaGreatDoor
open Go.Lib
set_option linter.unusedVariables false
set_option linter.unusedSimpArgs false

abbrev WS := List (List UInt8)
/-- The kinds' words, and their fields as texts. -/
def verbT : WS := [[], [105, 116, 101, 109], [107, 105, 116], [111, 116, 104, 101, 114, 115], [114, 101, 99, 101, 105, 118, 101], [111, 114, 100, 101, 114], [100, 117, 101], [100, 114, 111, 112], [97, 114, 114, 105, 118, 101], [110, 101, 101, 100], [99, 97, 110, 99, 101, 108], [115, 104, 105, 112], [116, 105, 99, 107], [119, 104, 101, 110], [108, 105, 110, 101], [115, 116, 111, 99, 107]]
def verbF : List (List Nat) := [[], [105, 108], [105, 112], [105, 111], [105, 113], [105, 113, 100], [116, 100], [116], [116], [105, 113, 100, 114], [110], [110], [], [105, 113, 100], [110], [105]]
/-- The kind that a word says; 0: none. -/
def kindW (w : List UInt8) : Int :=
  if w = [105, 116, 101, 109] then 1 else if w = [107, 105, 116] then 2 else if w = [111, 116, 104, 101, 114, 115] then 3 else if w = [114, 101, 99, 101, 105, 118, 101] then 4 else if w = [111, 114, 100, 101, 114] then 5 else if w = [100, 117, 101] then 6 else if w = [100, 114, 111, 112] then 7 else if w = [97, 114, 114, 105, 118, 101] then 8 else if w = [110, 101, 101, 100] then 9 else if w = [99, 97, 110, 99, 101, 108] then 10 else if w = [115, 104, 105, 112] then 11 else if w = [116, 105, 99, 107] then 12 else if w = [119, 104, 101, 110] then 13 else if w = [108, 105, 110, 101] then 14 else if w = [115, 116, 111, 99, 107] then 15 else 0
def num1C (w : List UInt8) (ws : WS) : Option (Int × WS) := match numL w with
  | none => none
  | some n => some (n, ws)
def num1 : WS → Option (Int × WS)
  | [] => none
  | w :: ws => num1C w ws
def partsW : WS → Option (List (List UInt8 × Int))
  | [] => some []
  | [_] => none
  | w :: v :: ws => match numL v with
    | none => none
    | some n => match partsW ws with
      | none => none
      | some l => some ((w, n) :: l)
/-- A field is taken of words. -/
def takeF (x : AskV × WS) (c : Nat) : Option (AskV × WS) :=
  if c = 105 then (match x.2 with
    | [] => none
    | w :: ws => some ({ x.1 with item := w }, ws))
  else if c = 113 then (num1 x.2).map fun r => ({ x.1 with qty := r.1 }, r.2)
  else if c = 100 then (num1 x.2).map fun r => ({ x.1 with day := r.1 }, r.2)
  else if c = 108 then (num1 x.2).map fun r => ({ x.1 with days := r.1 }, r.2)
  else if c = 114 then (num1 x.2).map fun r => ({ x.1 with rank := r.1 }, r.2)
  else if c = 116 then (num1 x.2).map fun r => ({ x.1 with lot := r.1 }, r.2)
  else if c = 110 then (num1 x.2).map fun r => ({ x.1 with line := r.1 }, r.2)
  else if c = 112 then (partsW x.2).map fun l => ({ x.1 with parts := x.1.parts ++ l }, [])
  else if c = 111 then some ({ x.1 with others := x.1.others ++ x.2 }, [])
  else some x
def optF (s : Option (AskV × WS)) (c : Nat) : Option (AskV × WS) := match s with
  | none => none
  | some x => takeF x c
/-- The command that words say. -/
def askE : Option (AskV × WS) → Option AskV
  | some (a, []) => if rightA a then some a else none
  | _ => none
def askC2 (w v : List UInt8) (ws : WS) : Option AskV := match fieldsK (kindW w) with
  | none => none
  | some f => match numL v with
    | none => none
    | some r => askE (f.foldl optF (some ({ AskV.zero with kind := kindW w, request := r }, ws)))
def askW : WS → Option AskV
  | w :: v :: ws => askC2 w v ws
  | _ => none
structure StepV where
  kind : Int
  session : Int
  num : Int
  ask : AskV
  fates : List Int
def StepV.zero : StepV := ⟨0, 0, 0, AskV.zero, []⟩
/-- A session's number. -/
def sessO : Option Int → Option Int
  | none => none
  | some n => if 0 ≤ n ∧ n < 4 then some n else none
def sessW (w : List UInt8) : Option Int := sessO (numL w)
def fatesW : WS → Option (List Int)
  | [] => some []
  | w :: ws => match numL w with
    | none => none
    | some n => match fatesW ws with
      | none => none
      | some l => some (n :: l)
def only (ws : WS) (x : StepV) : Option StepV := match ws with
  | [] => some x
  | _ => none
def crashC (ws : WS) : Option StepV := match fatesW ws with
  | none => none
  | some l => some { StepV.zero with kind := 5, fates := l }
def armC (ws : WS) : Option StepV := match num1 ws with
  | some (n, []) => some { StepV.zero with kind := 7, num := n }
  | _ => none
def runC : WS → Option StepV
  | [v] => match sessW v with
    | none => none
    | some n => some { StepV.zero with kind := 2, session := n }
  | _ => none
def askC1 (v : List UInt8) (ws : WS) : Option StepV := match sessW v with
  | none => none
  | some n => match askW ws with
    | none => none
    | some a => some { StepV.zero with kind := 1, session := n, ask := a }
def askC0 : WS → Option StepV
  | [] => none
  | v :: ws => askC1 v ws
def stepC (w : List UInt8) (ws : WS) : Option StepV :=
  if w = [102, 108, 117, 115, 104] then only ws { StepV.zero with kind := 3 }
  else if w = [109, 97, 114, 107] then only ws { StepV.zero with kind := 4 }
  else if w = [111, 112, 101, 110] then only ws { StepV.zero with kind := 6 }
  else if w = [99, 114, 97, 115, 104] then crashC ws
  else if w = [97, 114, 109] then armC ws
  else if w = [114, 117, 110] then runC ws
  else if w = [97, 115, 107] then askC0 ws
  else none
/-- The step that words say. -/
def stepW : WS → Option StepV
  | [] => none
  | w :: ws => stepC w ws
/-- The step that a line is. -/
def stepL (l : List UInt8) : Option StepV := stepW (wordsL l)

/-! Told. -/
structure LotV where
  id : Int
  item : List UInt8
  frm : Int
  til : Int
  qty : Int
  here : Bool
structure UseV where
  want : Int
  lot : Int
  qty : Int
structure TellV where
  err : Int
  id : Int
  day : Int
  code : List UInt8
  state : Int
  lots : List LotV
  uses : List UseV
structure TaleV where
  kind : Int
  at_ : Int
  session : Int
  ask : AskV
  tell : TellV
def TellV.zero : TellV := ⟨0, 0, 0, [], 0, [], []⟩
def lotB (l : LotV) : Bool := decide (0 < l.id) && (codeL l.item && (decide (0 ≤ l.frm) && (decide (l.frm < l.til) && (decide (l.til ≤ 4001) && withinB l.qty 1 1073741824))))
def useB (u : UseV) : Bool := decide (0 ≤ u.want) && (decide (0 < u.lot) && decide (0 < u.qty))
def bareT (t : TellV) : Bool := decide (t.id = 0) && (decide (t.day = 0) && (decide (t.code = []) && (decide (t.state = 0) && (decide (t.lots = []) && decide (t.uses = [])))))
/-- Is an answer right? -/
def rightT (t : TellV) : Bool :=
  if t.err < 0 ∨ 999 < t.err then false else if t.err ≠ 0 then bareT t
  else withinB t.id 0 9223372036854775807 && (withinB t.day (-1) 4000 && ((decide (t.code = []) || codeL t.code) && (decide (t.state ≤ 3) && (decide (t.lots.length ≤ 300) && (decide (t.uses.length ≤ 2000) && (t.lots.all lotB && t.uses.all useB))))))
/-- A field's words. -/
def fieldW (a : AskV) (c : Nat) : WS :=
  if c = 105 then [a.item] else if c = 113 then [itoa a.qty] else if c = 100 then [itoa a.day] else if c = 108 then [itoa a.days] else if c = 114 then [itoa a.rank] else if c = 116 then [itoa a.lot]
  else if c = 110 then [itoa a.line] else if c = 112 then a.parts.flatMap (fun p => [p.1, itoa p.2]) else if c = 111 then a.others else []
def wordOf (k : Int) : List UInt8 := verbT.getD k.toNat []
/-- A command's words. -/
def asksW (a : AskV) : WS := if rightA a then wordOf a.kind :: itoa a.request :: ((fieldsK a.kind).getD []).flatMap (fieldW a) else [[110, 111, 110, 101]]
def lotW (l : LotV) : WS := [[108, 111, 116], itoa l.id, l.item, itoa l.frm, itoa l.til, itoa l.qty, itoa (if l.here then 1 else 0)]
def useW (u : UseV) : WS := [[117, 115, 101], itoa u.want, itoa u.lot, itoa u.qty]
/-- An answer's words. -/
def tellsW (t : TellV) : WS :=
  if rightT t then (if t.err ≠ 0 then [[101, 114, 114, 111, 114], itoa t.err]
    else [111, 107] :: itoa t.id :: itoa t.day :: (if t.code = [] then [45] else t.code) :: itoa t.state :: (t.lots.flatMap lotW ++ t.uses.flatMap useW))
  else [[110, 111, 110, 101]]
/-- A tale's words. -/
def toldW (t : TaleV) : WS :=
  itoa t.at_ :: (if t.kind = 1 then [97, 115, 107, 115] :: itoa t.session :: asksW t.ask else if t.kind = 2 then [116, 101, 108, 108, 115] :: itoa t.session :: tellsW t.tell else if t.kind = 3 then [[100, 111, 119, 110]] else if t.kind = 4 then [[111, 112, 101, 110]] else [[110, 111, 110, 101]])
/-- Words, each with a byte 32 ahead. -/
def each32 (ws : WS) : List UInt8 := ws.flatMap fun p => 32 :: p
/-- A tale's line. -/
def toldL (t : TaleV) : List UInt8 := Go.Lib.join (toldW t) [32]
theorem each32_cons (p : List UInt8) (ws : WS) : each32 (p :: ws) = 32 :: p ++ each32 ws := by unfold each32; rw [List.flatMap_cons]
theorem each32_append (a b : WS) : each32 (a ++ b) = each32 a ++ each32 b := by unfold each32; rw [List.flatMap_append]
theorem told_eq (t : TaleV) : ∃ ws, toldW t = itoa t.at_ :: ws ∧ toldL t = itoa t.at_ ++ each32 ws := by
  unfold toldL toldW
  exact ⟨_, rfl, join32 _ _⟩

/-! What is told is read. -/
/-- What a word is: not empty, all of its bytes from 33 to 126. -/
def wordB (p : List UInt8) : Prop := p ≠ [] ∧ ∀ c ∈ p, 33 ≤ c.toNat ∧ c.toNat ≤ 126
theorem wordB.ne {p : List UInt8} (h : wordB p) : p ≠ [] ∧ ∀ c ∈ p, c ≠ 32 := ⟨h.1, fun c hc e => by have := (h.2 c hc).1; subst e; revert this; decide⟩
theorem kindW_of {k : Int} {f : List Nat} (h : fieldsK k = some f) : kindW (wordOf k) = k ∧ wordB (wordOf k) ∧ verbF.getD k.toNat [] = f := by
  obtain ⟨h1, h2⟩ := fieldsK_range h
  rcases (show k = 1 ∨ k = 2 ∨ k = 3 ∨ k = 4 ∨ k = 5 ∨ k = 6 ∨ k = 7 ∨ k = 8 ∨ k = 9 ∨ k = 10 ∨ k = 11 ∨ k = 12 ∨ k = 13 ∨ k = 14 ∨ k = 15 by omega) with rfl | rfl | rfl | rfl | rfl | rfl | rfl | rfl | rfl | rfl | rfl | rfl | rfl | rfl | rfl
  all_goals
    unfold fieldsK at h
    simp only [Int.reduceEq, if_true, if_false] at h
    injection h with h
    subst h
    refine ⟨by decide, ⟨by decide, by decide⟩, by decide⟩
theorem right_ok {a : AskV} (h : rightA a = true) : ∃ f, fieldsK a.kind = some f ∧ (∀ c ∈ f, okF a c = true ∧ c ∈ letters) ∧ f.foldl (setF a) { AskV.zero with kind := a.kind, request := a.request } = a := by
  obtain ⟨f, hf, _, _, h3⟩ := rightA_some h
  obtain ⟨_, _, k3⟩ := fieldsK_some hf
  refine ⟨f, hf, fun c hc => ?_, set_all hf h3⟩
  have := h3 c (k3 c hc)
  unfold fitF at this
  rw [if_pos (by simpa using hc)] at this
  exact ⟨this, k3 c hc⟩
/-! Blanks. -/
end Go.Proofs.YtglojnmcbochaaaGreatDoor

