/-
  Lines, plain: which step a line's words are, and in which words a tale is told. No program in sight.
-/
import Derived.Test.YtglojnmcbochaaaGreatDoorQWrdP
import Derived.Test.YtglojnmcbochaaaGreatDoorQAskQ
import Derived.Test.YtglojnmcbochaaaGreatDoorQCodN
namespace Go.Proofs.YtglojnmcbochaaaGreatDoor
open Go.Lib
set_option linter.unusedVariables false
set_option linter.unusedSimpArgs false

abbrev WS := List (List UInt8)
/-- The kinds' words, and their fields as texts. -/
def verbT : WS := [[], [105, 116, 101, 109], [107, 105, 116], [111, 116, 104, 101, 114, 115], [114, 101, 99, 101, 105, 118, 101], [111, 114, 100, 101, 114], [100, 117, 101], [100, 114, 111, 112], [97, 114, 114, 105, 118, 101], [110, 101, 101, 100], [99, 97, 110, 99, 101, 108], [115, 104, 105, 112], [116, 105, 99, 107], [119, 104, 101, 110], [108, 105, 110, 101], [115, 116, 111, 99, 107]]
def verbF : List (List Nat) := [[], [105, 108], [105, 112], [105, 111], [105, 113], [105, 113, 100], [116, 100], [116], [116], [105, 113, 100, 114], [110], [110], [], [105, 113, 100], [110], [105]]
/-- The kind that a word says; 0: none. -/
def kindW (w : List UInt8) : Int :=
  if w = [105, 116, 101, 109] then 1 else if w = [107, 105, 116] then 2 else if w = [111, 116, 104, 101, 114, 115] then 3 else if w = [114, 101, 99, 101, 105, 118, 101] then 4 else if w = [111, 114, 100, 101, 114] then 5 else if w = [100, 117, 101] then 6 else if w = [100, 114, 111, 112] then 7 else if w = [97, 114, 114, 105, 118, 101] then 8 else if w = [110, 101, 101, 100] then 9 else if w = [99, 97, 110, 99, 101, 108] then 10 else if w = [115, 104, 105, 112] then 11 else if w = [116, 105, 99, 107] then 12 else if w = [119, 104, 101, 110] then 13 else if w = [108, 105, 110, 101] then 14 else if w = [115, 116, 111, 99, 107] then 15 else 0
def num1C (w : List UInt8) (ws : WS) : Option (Int × WS) := match numL w with
  | none => none
  | some n => some (n, ws)
def num1 : WS → Option (Int × WS)
  | [] => none
  | w :: ws => num1C w ws
def partsW : WS → Option (List (List UInt8 × Int))
  | [] => some []
  | [_] => none
  | w :: v :: ws => match numL v with
    | none => none
    | some n => match partsW ws with
      | none => none
      | some l => some ((w, n) :: l)
/-- A field is taken of words. -/
def takeF (x : AskV × WS) (c : Nat) : Option (AskV × WS) :=
  if c = 105 then (match x.2 with
    | [] => none
    | w :: ws => some ({ x.1 with item := w }, ws))
  else if c = 113 then (num1 x.2).map fun r => ({ x.1 with qty := r.1 }, r.2)
  else if c = 100 then (num1 x.2).map fun r => ({ x.1 with day := r.1 }, r.2)
  else if c = 108 then (num1 x.2).map fun r => ({ x.1 with days := r.1 }, r.2)
  else if c = 114 then (num1 x.2).map fun r => ({ x.1 with rank := r.1 }, r.2)
  else if c = 116 then (num1 x.2).map fun r => ({ x.1 with lot := r.1 }, r.2)
  else if c = 110 then (num1 x.2).map fun r => ({ x.1 with line := r.1 }, r.2)
  else if c = 112 then (partsW x.2).map fun l => ({ x.1 with parts := x.1.parts ++ l }, [])
  else if c = 111 then some ({ x.1 with others := x.1.others ++ x.2 }, [])
  else some x
def optF (s : Option (AskV × WS)) (c : Nat) : Option (AskV × WS) := match s with
  | none => none
  | some x => takeF x c
/-- The command that words say. -/
def askE : Option (AskV × WS) → Option AskV
  | some (a, []) => if rightA a then some a else none
  | _ => none
def askC2 (w v : List UInt8) (ws : WS) : Option AskV := match fieldsK (kindW w) with
  | none => none
  | some f => match numL v with
    | none => none
    | some r => askE (f.foldl optF (some ({ AskV.zero with kind := kindW w, request := r }, ws)))
def askW : WS → Option AskV
  | w :: v :: ws => askC2 w v ws
  | _ => none
structure StepV where
  kind : Int
  session : Int
  num : Int
  ask : AskV
  fates : List Int
def StepV.zero : StepV := ⟨0, 0, 0, AskV.zero, []⟩
/-- A session's number. -/
def sessO : Option Int → Option Int
  | none => none
  | some n => if 0 ≤ n ∧ n < 4 then some n else none
def sessW (w : List UInt8) : Option Int := sessO (numL w)
def fatesW : WS → Option (List Int)
  | [] => some []
  | w :: ws => match numL w with
    | none => none
    | some n => match fatesW ws with
      | none => none
      | some l => some (n :: l)
def only (ws : WS) (x : StepV) : Option StepV := match ws with
  | [] => some x
  | _ => none
def crashC (ws : WS) : Option StepV := match fatesW ws with
  | none => none
  | some l => some { StepV.zero with kind := 5, fates := l }
def armC (ws : WS) : Option StepV := match num1 ws with
  | some (n, []) => some { StepV.zero with kind := 7, num := n }
  | _ => none
def runC : WS → Option StepV
  | [v] => match sessW v with
    | none => none
    | some n => some { StepV.zero with kind := 2, session := n }
  | _ => none
def askC1 (v : List UInt8) (ws : WS) : Option StepV := match sessW v with
  | none => none
  | some n => match askW ws with
    | none => none
    | some a => some { StepV.zero with kind := 1, session := n, ask := a }
def askC0 : WS → Option StepV
  | [] => none
  | v :: ws => askC1 v ws
def stepC (w : List UInt8) (ws : WS) : Option StepV :=
  if w = [102, 108, 117, 115, 104] then only ws { StepV.zero with kind := 3 }
  else if w = [109, 97, 114, 107] then only ws { StepV.zero with kind := 4 }
  else if w = [111, 112, 101, 110] then only ws { StepV.zero with kind := 6 }
  else if w = [99, 114, 97, 115, 104] then crashC ws
  else if w = [97, 114, 109] then armC ws
  else if w = [114, 117, 110] then runC ws
  else if w = [97, 115, 107] then askC0 ws
  else none
/-- The step that words say. -/
def stepW : WS → Option StepV
  | [] => none
  | w :: ws => stepC w ws
/-- The step that a line is. -/
def stepL (l : List UInt8) : Option StepV := stepW (wordsL l)

/-! Told. -/
structure LotV where
  id : Int
  item : List UInt8
  frm : Int
  til : Int
  qty : Int
  here : Bool
structure UseV where
  want : Int
  lot : Int
  qty : Int
structure TellV where
  err : Int
  id : Int
  day : Int
  code : List UInt8
  state : Int
  lots : List LotV
  uses : List UseV
structure TaleV where
  kind : Int
  at_ : Int
  session : Int
  ask : AskV
  tell : TellV
def TellV.zero : TellV := ⟨0, 0, 0, [], 0, [], []⟩
def lotB (l : LotV) : Bool := decide (0 < l.id) && (codeL l.item && (decide (0 ≤ l.frm) && (decide (l.frm < l.til) && (decide (l.til ≤ 4001) && withinB l.qty 1 1073741824))))
def useB (u : UseV) : Bool := decide (0 ≤ u.want) && (decide (0 < u.lot) && decide (0 < u.qty))
def bareT (t : TellV) : Bool := decide (t.id = 0) && (decide (t.day = 0) && (decide (t.code = []) && (decide (t.state = 0) && (decide (t.lots = []) && decide (t.uses = [])))))
/-- Is an answer right? -/
def rightT (t : TellV) : Bool :=
  if t.err < 0 ∨ 999 < t.err then false else if t.err ≠ 0 then bareT t
  else withinB t.id 0 9223372036854775807 && (withinB t.day (-1) 4000 && ((decide (t.code = []) || codeL t.code) && (decide (t.state ≤ 3) && (decide (t.lots.length ≤ 300) && (decide (t.uses.length ≤ 2000) && (t.lots.all lotB && t.uses.all useB))))))
/-- A field's words. -/
def fieldW (a : AskV) (c : Nat) : WS :=
  if c = 105 then [a.item] else if c = 113 then [itoa a.qty] else if c = 100 then [itoa a.day] else if c = 108 then [itoa a.days] else if c = 114 then [itoa a.rank] else if c = 116 then [itoa a.lot]
  else if c = 110 then [itoa a.line] else if c = 112 then a.parts.flatMap (fun p => [p.1, itoa p.2]) else if c = 111 then a.others else []
def wordOf (k : Int) : List UInt8 := verbT.getD k.toNat []
/-- A command's words. -/
def asksW (a : AskV) : WS := if rightA a then wordOf a.kind :: itoa a.request :: ((fieldsK a.kind).getD []).flatMap (fieldW a) else [[110, 111, 110, 101]]
def lotW (l : LotV) : WS := [[108, 111, 116], itoa l.id, l.item, itoa l.frm, itoa l.til, itoa l.qty, itoa (if l.here then 1 else 0)]
def useW (u : UseV) : WS := [[117, 115, 101], itoa u.want, itoa u.lot, itoa u.qty]
/-- An answer's words. -/
def tellsW (t : TellV) : WS :=
  if rightT t then (if t.err ≠ 0 then [[101, 114, 114, 111, 114], itoa t.err]
    else [111, 107] :: itoa t.id :: itoa t.day :: (if t.code = [] then [45] else t.code) :: itoa t.state :: (t.lots.flatMap lotW ++ t.uses.flatMap useW))
  else [[110, 111, 110, 101]]
/-- A tale's words. -/
def toldW (t : TaleV) : WS :=
  itoa t.at_ :: (if t.kind = 1 then [97, 115, 107, 115] :: itoa t.session :: asksW t.ask else if t.kind = 2 then [116, 101, 108, 108, 115] :: itoa t.session :: tellsW t.tell else if t.kind = 3 then [[100, 111, 119, 110]] else if t.kind = 4 then [[111, 112, 101, 110]] else [[110, 111, 110, 101]])
/-- Words, each with a byte 32 ahead. -/
def each32 (ws : WS) : List UInt8 := ws.flatMap fun p => 32 :: p
/-- A tale's line. -/
def toldL (t : TaleV) : List UInt8 := Go.Lib.join (toldW t) [32]
theorem each32_cons (p : List UInt8) (ws : WS) : each32 (p :: ws) = 32 :: p ++ each32 ws := by unfold each32; rw [List.flatMap_cons]
theorem told_eq (t : TaleV) : ∃ ws, toldW t = itoa t.at_ :: ws ∧ toldL t = itoa t.at_ ++ each32 ws := by
  unfold toldL toldW
  exact ⟨_, rfl, join32 _ _⟩

/-! What is told is read. -/
/-- What a word is: not empty, all of its bytes from 33 to 126. -/
def wordB (p : List UInt8) : Prop := p ≠ [] ∧ ∀ c ∈ p, 33 ≤ c.toNat ∧ c.toNat ≤ 126
theorem wordB.ne {p : List UInt8} (h : wordB p) : p ≠ [] ∧ ∀ c ∈ p, c ≠ 32 := ⟨h.1, fun c hc e => by have := (h.2 c hc).1; subst e; revert this; decide⟩
theorem kindW_of {k : Int} {f : List Nat} (h : fieldsK k = some f) : kindW (wordOf k) = k ∧ wordB (wordOf k) ∧ verbF.getD k.toNat [] = f := by
  obtain ⟨h1, h2⟩ := fieldsK_range h
  rcases (show k = 1 ∨ k = 2 ∨ k = 3 ∨ k = 4 ∨ k = 5 ∨ k = 6 ∨ k = 7 ∨ k = 8 ∨ k = 9 ∨ k = 10 ∨ k = 11 ∨ k = 12 ∨ k = 13 ∨ k = 14 ∨ k = 15 by omega) with rfl | rfl | rfl | rfl | rfl | rfl | rfl | rfl | rfl | rfl | rfl | rfl | rfl | rfl | rfl
  all_goals
    unfold fieldsK at h
    simp only [Int.reduceEq, if_true, if_false] at h
    injection h with h
    subst h
    refine ⟨by decide, ⟨by decide, by decide⟩, by decide⟩
theorem right_ok {a : AskV} (h : rightA a = true) : ∃ f, fieldsK a.kind = some f ∧ (∀ c ∈ f, okF a c = true ∧ c ∈ letters) ∧ f.foldl (setF a) { AskV.zero with kind := a.kind, request := a.request } = a := by
  obtain ⟨f, hf, _, _, h3⟩ := rightA_some h
  obtain ⟨_, _, k3⟩ := fieldsK_some hf
  refine ⟨f, hf, fun c hc => ?_, set_all hf h3⟩
  have := h3 c (k3 c hc)
  unfold fitF at this
  rw [if_pos (by simpa using hc)] at this
  exact ⟨this, k3 c hc⟩
/-! Blanks. -/
theorem stepL_wide (l : List UInt8) : stepL ([32, 32, 32] ++ wideL l ++ [32, 32]) = stepL l := by
  unfold stepL
  have e : [32, 32, 32] ++ wideL l ++ [32, 32] = 32 :: 32 :: 32 :: (wideL l ++ 32 :: [32]) := by simp
  rw [e, words_blank, words_blank, words_blank, words_app, words_blank, words_nil, List.append_nil, words_wide]
theorem fatesW_snoc (ws : WS) (n : Int) (h : int64 n) : fatesW (ws ++ [itoa n]) = (fatesW ws).map fun l => l ++ [n] := by
  induction ws with
  | nil =>
    show fatesW [itoa n] = _
    unfold fatesW
    rw [numL_itoa n h]
    rfl
  | cons w ws ih =>
    rw [List.cons_append]
    unfold fatesW
    cases numL w with
    | none => rfl
    | some m =>
      simp only
      rw [ih]
      cases fatesW ws with
      | none => rfl
      | some l => rfl
theorem only_kind {ws : WS} {x y : StepV} (h : only ws x = some y) : y = x := by
  unfold only at h
  split at h
  · injection h with h
    exact h.symm
  · cases h
theorem stepW_crash {ws : WS} {x : StepV} (h : stepW ws = some x) (hk : x.kind = 5) : ∃ vs, ws = [99, 114, 97, 115, 104] :: vs ∧ ∃ l, fatesW vs = some l ∧ x = { StepV.zero with kind := 5, fates := l } := by
  cases ws with
  | nil => cases h
  | cons w ws =>
    change stepC w ws = some x at h
    unfold stepC at h
    by_cases h1 : w = [102, 108, 117, 115, 104]
    · rw [if_pos h1] at h
      rw [only_kind h] at hk
      exact absurd hk (by decide)
    rw [if_neg h1] at h
    by_cases h1 : w = [109, 97, 114, 107]
    · rw [if_pos h1] at h
      rw [only_kind h] at hk
      exact absurd hk (by decide)
    rw [if_neg h1] at h
    by_cases h1 : w = [111, 112, 101, 110]
    · rw [if_pos h1] at h
      rw [only_kind h] at hk
      exact absurd hk (by decide)
    rw [if_neg h1] at h
    by_cases h1 : w = [99, 114, 97, 115, 104]
    · rw [if_pos h1] at h
      subst h1
      unfold crashC at h
      cases hf : fatesW ws with
      | none => rw [hf] at h; cases h
      | some l =>
        rw [hf] at h
        injection h with h
        exact ⟨ws, rfl, l, hf, h.symm⟩
    rw [if_neg h1] at h
    exfalso
    by_cases h1 : w = [97, 114, 109]
    · rw [if_pos h1] at h
      unfold armC at h
      split at h
      · injection h with h
        rw [← h] at hk
        exact absurd (show (7 : Int) = 5 from hk) (by decide)
      · cases h
    rw [if_neg h1] at h
    by_cases h1 : w = [114, 117, 110]
    · rw [if_pos h1] at h
      unfold runC at h
      split at h
      · split at h
        · cases h
        · injection h with h
          rw [← h] at hk
          exact absurd (show (2 : Int) = 5 from hk) (by decide)
      · cases h
    rw [if_neg h1] at h
    by_cases h1 : w = [97, 115, 107]
    · rw [if_pos h1] at h
      cases ws with
      | nil => cases h
      | cons v ws =>
        change askC1 v ws = some x at h
        unfold askC1 at h
        split at h
        · cases h
        · split at h
          · cases h
          · injection h with h
            rw [← h] at hk
            exact absurd (show (1 : Int) = 5 from hk) (by decide)
    rw [if_neg h1] at h
    cases h
/-- A fate more is one more. -/
theorem stepL_fate {l : List UInt8} {x : StepV} (h : stepL l = some x) (hk : x.kind = 5) : stepL (l ++ [32, 53]) = some { x with fates := x.fates ++ [5] } := by
  unfold stepL at h ⊢
  obtain ⟨vs, hv, fs, hf, rfl⟩ := stepW_crash h hk
  have e : wordsL (l ++ [32, 53]) = [99, 114, 97, 115, 104] :: (vs ++ [itoa 5]) := by
    have : wordsL (l ++ [32, 53]) = wordsL l ++ wordsL [53] := words_app l [53]
    rw [this, hv, words_word (by decide) (by decide)]
    rw [show itoa 5 = [53] by
      unfold itoa
      rw [if_neg (by decide), decDigits, dif_pos (by decide)]
      rfl]
    rfl
  rw [e]
  show stepC _ _ = _
  unfold stepC crashC
  rw [if_neg (by decide), if_neg (by decide), if_neg (by decide), if_pos rfl, fatesW_snoc vs 5 (by unfold int64; omega), hf]
  rfl
end Go.Proofs.YtglojnmcbochaaaGreatDoor

