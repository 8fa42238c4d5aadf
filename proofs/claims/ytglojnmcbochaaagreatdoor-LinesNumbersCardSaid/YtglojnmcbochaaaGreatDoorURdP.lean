/-
 What the program's reader takes of words, step by step, plain; and that it is the step that the words say. No program in sight.
-/
import Derived.Test.YtglojnmcbochaaaGreatDoorULnsP
namespace Go.Proofs.YtglojnmcbochaaaGreatDoor
open Go.Lib
set_option linter.unusedVariables false
set_option linter.unusedSimpArgs false

def nullB (ws : WS) (bad : Bool) : Bool := bad || !(numL (ws.headD [])).isSome
theorem numL_nil : numL [] = none := rfl
def numV (ws : WS) : Int := (numL (ws.headD [])).getD 0
def sessB (ws : WS) (bad : Bool) : Bool := nullB ws bad || decide (numV ws < 0) || decide (4 ≤ numV ws)
def partsP : WS → Bool → List (List UInt8 × Int) × WS × Bool
 | ws, true => ([], ws, true)
 | [], false => ([], [], false)
 | [x], false => ([(x, 0)], [], true)
 | x :: v :: ws, false => ((x, numV [v]) :: (partsP ws (nullB [v] false)).1, (partsP ws (nullB [v] false)).2)
theorem partsP_bad (ws : WS) : partsP ws true = ([], ws, true) := by cases ws <;> rfl
theorem partsP_nil (b : Bool) : partsP [] b = ([], [], b) := by cases b <;> rfl
theorem partsP_cons (x : List UInt8) (t : WS) : partsP (x :: t) false = ((x, numV t) :: (partsP t.tail (nullB t false)).1, (partsP t.tail (nullB t false)).2) := by
 cases t with
 | nil =>
  show ([(x, 0)], [], true) = _
  rfl
 | cons v t => rfl
def fieldP (x : AskV × WS × Bool) (c : Nat) : AskV × WS × Bool :=
 if c = 105 then ({ x.1 with item := x.2.1.headD [] }, x.2.1.tail, x.2.2 || x.2.1.isEmpty)
 else if c = 113 then ({ x.1 with qty := numV x.2.1 }, x.2.1.tail, nullB x.2.1 x.2.2)
 else if c = 100 then ({ x.1 with day := numV x.2.1 }, x.2.1.tail, nullB x.2.1 x.2.2)
 else if c = 108 then ({ x.1 with days := numV x.2.1 }, x.2.1.tail, nullB x.2.1 x.2.2)
 else if c = 114 then ({ x.1 with rank := numV x.2.1 }, x.2.1.tail, nullB x.2.1 x.2.2)
 else if c = 116 then ({ x.1 with lot := numV x.2.1 }, x.2.1.tail, nullB x.2.1 x.2.2)
 else if c = 110 then ({ x.1 with line := numV x.2.1 }, x.2.1.tail, nullB x.2.1 x.2.2)
 else if c = 112 then ({ x.1 with parts := x.1.parts ++ (partsP x.2.1 x.2.2).1 }, (partsP x.2.1 x.2.2).2)
 else if c = 111 then ({ x.1 with others := x.1.others ++ x.2.1 }, [], x.2.2)
 else x
def askEnd (y : AskV × WS × Bool) : AskV × WS × Bool := (y.1, y.2.1, y.2.2 || !rightA y.1)
def askPF (o : Option (List Nat)) (ws : WS) (bad : Bool) : AskV × WS × Bool :=
 match o with
 | none => (AskV.zero, ws.tail, true)
 | some f => askEnd (f.foldl fieldP ({ AskV.zero with kind := kindW (ws.headD []), request := numV ws.tail }, ws.tail.tail, nullB ws.tail (bad || ws.isEmpty)))
def askP (ws : WS) (bad : Bool) : AskV × WS × Bool := askPF (fieldsK (kindW (ws.headD []))) ws bad
def finA (r : AskV × WS × Bool) : Option AskV := if r.2.2 then none else match r.2.1 with
 | [] => some r.1
 | _ => none
theorem finA_bad (r : AskV × WS × Bool) (h : r.2.2 = true) : finA r = none := by unfold finA; rw [if_pos h]
def fatesP : WS → Bool → List Int × WS × Bool
 | ws, true => ([], ws, true)
 | [], false => ([], [], false)
 | x :: ws, false => (numV [x] :: (fatesP ws (nullB [x] false)).1, (fatesP ws (nullB [x] false)).2)
theorem fatesP_bad (ws : WS) : fatesP ws true = ([], ws, true) := by cases ws <;> rfl
theorem fatesP_nil (b : Bool) : fatesP [] b = ([], [], b) := by cases b <;> rfl
def stepP (ws : WS) (bad : Bool) : StepV × WS × Bool :=
 if ws.headD [] = [97, 115, 107] then ({ StepV.zero with kind := 1, session := numV ws.tail, ask := (askP ws.tail.tail (sessB ws.tail (bad || ws.isEmpty))).1 }, (askP ws.tail.tail (sessB ws.tail (bad || ws.isEmpty))).2)
 else if ws.headD [] = [114, 117, 110] then ({ StepV.zero with kind := 2, session := numV ws.tail }, ws.tail.tail, sessB ws.tail (bad || ws.isEmpty))
 else if ws.headD [] = [102, 108, 117, 115, 104] then ({ StepV.zero with kind := 3 }, ws.tail, bad || ws.isEmpty)
 else if ws.headD [] = [109, 97, 114, 107] then ({ StepV.zero with kind := 4 }, ws.tail, bad || ws.isEmpty)
 else if ws.headD [] = [111, 112, 101, 110] then ({ StepV.zero with kind := 6 }, ws.tail, bad || ws.isEmpty)
 else if ws.headD [] = [97, 114, 109] then ({ StepV.zero with kind := 7, num := numV ws.tail }, ws.tail.tail, nullB ws.tail (bad || ws.isEmpty))
 else if ws.headD [] = [99, 114, 97, 115, 104] then ({ StepV.zero with kind := 5, fates := (fatesP ws.tail (bad || ws.isEmpty)).1 }, (fatesP ws.tail (bad || ws.isEmpty)).2)
 else (StepV.zero, ws.tail, true)
def endP (r : StepV × WS × Bool) : Option StepV := if r.2.2 then none else match r.2.1 with
 | [] => some r.1
 | _ => none

/-! They are alike. -/
theorem null_nil (b : Bool) : nullB [] b = true := by unfold nullB; simp [numL_nil]
theorem partsP_of (n : Nat) : ∀ ws : WS, ws.length ≤ n → match partsW ws with
  | some l => partsP ws false = (l, [], false)
  | none => (partsP ws false).2.2 = true := by
 induction n with
 | zero =>
  intro ws h
  obtain rfl := List.length_eq_zero_iff.1 (Nat.le_zero.1 h)
  rfl
 | succ n ih =>
  intro ws h
  match ws, h with
  | [], _ => rfl
  | [x], _ => rfl
  | x :: v :: ws, h =>
   simp only [List.length_cons] at h
   rw [partsP_cons]
   unfold partsW numV nullB
   simp only [List.headD_cons, List.tail_cons]
   cases hv : numL v with
   | none =>
    simp only [Option.isSome_none, Bool.not_false, Bool.false_or]
    rw [partsP_bad]
   | some m =>
    have := ih ws (by omega)
    simp only [Option.isSome_some, Bool.not_true, Bool.false_or, Option.getD_some]
    cases hp : partsW ws with
    | none => rw [hp] at this; exact this
    | some l => rw [hp] at this; simp only at this; rw [this]
theorem fieldP_bad (x : AskV) (ws : WS) (c : Nat) : (fieldP (x, ws, true) c).2.2 = true := by
 unfold fieldP
 repeat' split
 all_goals first
  | rfl
  | (simp only; rw [partsP_bad])
def AgreeF (o : Option (AskV × WS)) (r : AskV × WS × Bool) : Prop := match o with
 | some y => r = (y.1, y.2, false)
 | none => r.2.2 = true
theorem fieldP_of (x : AskV) (ws : WS) (c : Nat) : AgreeF (takeF (x, ws) c) (fieldP (x, ws, false) c) := by
 have hn : ∀ (g : Int → AskV), AgreeF ((num1 ws).map (fun r => (g r.1, r.2))) (g (numV ws), ws.tail, nullB ws false) := by
  intro g
  cases ws with
  | nil => exact (null_nil false : nullB [] false = true)
  | cons w ws =>
   show AgreeF ((num1C w ws).map _) _
   unfold num1C nullB numV
   simp only [List.headD_cons, List.tail_cons]
   cases numL w <;> simp [AgreeF]
 unfold takeF fieldP
 simp only
 by_cases h : c = 105
 ·rw [if_pos h, if_pos h]
  cases ws with
  | nil => rfl
  | cons w ws => rfl
 rw [if_neg h, if_neg h]
 by_cases h : c = 113
 ·rw [if_pos h, if_pos h]; exact hn fun n => { x with qty := n }
 rw [if_neg h, if_neg h]
 by_cases h : c = 100
 ·rw [if_pos h, if_pos h]; exact hn fun n => { x with day := n }
 rw [if_neg h, if_neg h]
 by_cases h : c = 108
 ·rw [if_pos h, if_pos h]; exact hn fun n => { x with days := n }
 rw [if_neg h, if_neg h]
 by_cases h : c = 114
 ·rw [if_pos h, if_pos h]; exact hn fun n => { x with rank := n }
 rw [if_neg h, if_neg h]
 by_cases h : c = 116
 ·rw [if_pos h, if_pos h]; exact hn fun n => { x with lot := n }
 rw [if_neg h, if_neg h]
 by_cases h : c = 110
 ·rw [if_pos h, if_pos h]; exact hn fun n => { x with line := n }
 rw [if_neg h, if_neg h]
 by_cases h : c = 112
 ·rw [if_pos h, if_pos h]
  have := partsP_of ws.length ws (Nat.le_refl _)
  cases hp : partsW ws with
  | none => rw [hp] at this; exact this
  | some l =>
   rw [hp] at this
   simp only at this
   show _ = _
   rw [this]
 rw [if_neg h, if_neg h]
 by_cases h : c = 111
 ·rw [if_pos h, if_pos h]
  rfl
 rw [if_neg h, if_neg h]
 rfl
theorem foldP_bad (f : List Nat) (x : AskV × WS × Bool) (h : x.2.2 = true) : (f.foldl fieldP x).2.2 = true := by
 induction f generalizing x with
 | nil => exact h
 | cons c f ih =>
  rw [List.foldl_cons]
  obtain ⟨x1, x2, x3⟩ := x
  simp only at h
  subst h
  exact ih _ (fieldP_bad x1 x2 c)
theorem optF_none (f : List Nat) : f.foldl optF none = none := by
 induction f with
 | nil => rfl
 | cons c f ih => exact ih
theorem foldP_of (f : List Nat) (x : AskV) (ws : WS) : AgreeF (f.foldl optF (some (x, ws))) (f.foldl fieldP (x, ws, false)) := by
 induction f generalizing x ws with
 | nil => rfl
 | cons c f ih =>
  rw [List.foldl_cons, List.foldl_cons]
  show AgreeF (f.foldl optF (takeF (x, ws) c)) (f.foldl fieldP (fieldP (x, ws, false) c))
  have h1 := fieldP_of x ws c
  cases ht : takeF (x, ws) c with
  | none =>
   rw [ht] at h1
   rw [optF_none]
   exact foldP_bad f _ h1
  | some y =>
   rw [ht] at h1
   change fieldP (x, ws, false) c = (y.1, y.2, false) at h1
   rw [h1]
   exact ih y.1 y.2
theorem askEnd_bad (y : AskV × WS × Bool) (h : y.2.2 = true) : (askEnd y).2.2 = true := by
 unfold askEnd
 simp only
 rw [h]
 rfl
theorem askP_bad (ws : WS) : (askP ws true).2.2 = true := by
 unfold askP
 cases fieldsK (kindW (ws.headD [])) with
 | none => rfl
 | some f => exact askEnd_bad _ (foldP_bad _ _ rfl)
theorem askP_of (ws : WS) : askW ws = finA (askP ws false) := by
 unfold askP
 match ws with
 | [] => rfl
 | [w] =>
  show none = finA (askPF (fieldsK (kindW w)) [w] false)
  cases fieldsK (kindW w) with
  | none => rfl
  | some f => exact (finA_bad _ (askEnd_bad _ (foldP_bad _ _ (show nullB [] true = true from null_nil _)))).symm
 | w :: v :: ws =>
  show askC2 w v ws = finA (askPF (fieldsK (kindW w)) (w :: v :: ws) false)
  unfold askC2
  cases fieldsK (kindW w) with
  | none => rfl
  | some f =>
   show _ = finA (askEnd (f.foldl fieldP ({ AskV.zero with kind := kindW w, request := (numL v).getD 0 }, ws, false || !(numL v).isSome)))
   simp only
   cases hv : numL v with
   | none => exact (finA_bad _ (askEnd_bad _ (foldP_bad _ _ rfl))).symm
   | some r =>
    simp only [Option.isSome_some, Bool.not_true, Option.getD_some, Bool.false_or]
    have := foldP_of f { AskV.zero with kind := kindW w, request := r } ws
    cases hf : f.foldl optF (some ({ AskV.zero with kind := kindW w, request := r }, ws)) with
    | none =>
     rw [hf] at this
     exact (finA_bad _ (askEnd_bad _ this)).symm
    | some y =>
     rw [hf] at this
     change f.foldl fieldP _ = (y.1, y.2, false) at this
     rw [this]
     obtain ⟨a, vs⟩ := y
     unfold finA askEnd
     simp only [Bool.false_or]
     cases vs with
     | nil =>
      show (if rightA a then some a else none) = _
      cases rightA a <;> rfl
     | cons u vs =>
      show none = _
      cases rightA a <;> rfl
theorem fatesP_of (ws : WS) : match fatesW ws with
  | some l => fatesP ws false = (l, [], false)
  | none => (fatesP ws false).2.2 = true := by
 induction ws with
 | nil => rfl
 | cons w ws ih =>
  unfold fatesW fatesP numV nullB
  simp only [List.headD_cons, Bool.false_or]
  cases hv : numL w with
  | none =>
   simp only [Option.isSome_none, Bool.not_false]
   rw [fatesP_bad]
  | some m =>
   simp only [Option.isSome_some, Bool.not_true, Option.getD_some]
   cases hp : fatesW ws with
   | none => rw [hp] at ih; exact ih
   | some l => rw [hp] at ih; simp only at ih; rw [ih]
def AgreeS (o : Option Int) (n : Int) (b : Bool) : Prop := match o with
 | some m => n = m ∧ b = false
 | none => b = true
theorem sessB_nil : sessB [] false = true := by unfold sessB; rw [null_nil]; rfl
theorem sessO_of (o : Option Int) : AgreeS (sessO o) (o.getD 0) (false || !o.isSome || decide (o.getD 0 < 0) || decide (4 ≤ o.getD 0)) := by
 unfold sessO
 cases o with
 | none => rfl
 | some n =>
  simp only [Option.isSome_some, Bool.not_true, Option.getD_some, Bool.false_or]
  by_cases h : 0 ≤ n ∧ n < 4
  ·rw [if_pos h]
   refine ⟨rfl, ?_⟩
   simp
   omega
  ·rw [if_neg h]
   show _ = true
   simp
   omega
theorem sessB_of (v : List UInt8) (ws : WS) : AgreeS (sessW v) (numV (v :: ws)) (sessB (v :: ws) false) := sessO_of (numL v)
theorem endP_bad (r : StepV × WS × Bool) (h : r.2.2 = true) : endP r = none := by unfold endP; rw [if_pos h]
theorem stepP_of (ws : WS) : endP (stepP ws false) = stepW ws := by
 cases ws with
 | nil => rfl
 | cons w ws =>
  show _ = stepC w ws
  unfold stepP stepC
  simp only [List.headD_cons, List.tail_cons, List.isEmpty_cons, Bool.or_false]
  have ho : ∀ x : StepV, endP (x, ws, false) = only ws x := fun x => by
   cases ws <;> rfl
  by_cases h1 : w = [102, 108, 117, 115, 104]
  ·subst h1
   rw [if_neg (by decide), if_neg (by decide), if_pos rfl, if_pos rfl]
   exact ho _
  by_cases h2 : w = [109, 97, 114, 107]
  ·subst h2
   rw [if_neg (by decide), if_neg (by decide), if_neg (by decide), if_pos rfl, if_neg (by decide), if_pos rfl]
   exact ho _
  by_cases h3 : w = [111, 112, 101, 110]
  ·subst h3
   rw [if_neg (by decide), if_neg (by decide), if_neg (by decide), if_neg (by decide), if_pos rfl, if_neg (by decide), if_neg (by decide), if_pos rfl]
   exact ho _
  by_cases h4 : w = [99, 114, 97, 115, 104]
  ·subst h4
   rw [if_neg (by decide), if_neg (by decide), if_neg (by decide), if_neg (by decide), if_neg (by decide), if_neg (by decide), if_pos rfl, if_neg (by decide), if_neg (by decide), if_neg (by decide), if_pos rfl]
   unfold crashC
   have := fatesP_of ws
   cases hf : fatesW ws with
   | none => rw [hf] at this; exact endP_bad _ this
   | some l => rw [hf] at this; simp only at this; rw [this]; rfl
  by_cases h5 : w = [97, 114, 109]
  ·subst h5
   rw [if_neg (by decide), if_neg (by decide), if_neg (by decide), if_neg (by decide), if_neg (by decide), if_pos rfl, if_neg (by decide), if_neg (by decide), if_neg (by decide), if_neg (by decide), if_pos rfl]
   unfold armC
   cases ws with
   | nil => exact endP_bad _ (show nullB [] false = true from null_nil _)
   | cons v ws =>
    show _ = match num1C v ws with
     | some (n, []) => some { StepV.zero with kind := 7, num := n }
     | _ => none
    unfold num1C nullB numV
    simp only [List.headD_cons, List.tail_cons, Bool.false_or]
    cases numL v with
    | none => rfl
    | some n => cases ws <;> rfl
  by_cases h6 : w = [114, 117, 110]
  ·subst h6
   rw [if_neg (by decide), if_pos rfl, if_neg (by decide), if_neg (by decide), if_neg (by decide), if_neg (by decide), if_neg (by decide), if_pos rfl]
   cases ws with
   | nil => exact endP_bad _ sessB_nil
   | cons v ws =>
    have := sessB_of v ws
    cases hs : sessW v with
    | none =>
     rw [hs] at this
     rw [endP_bad _ (show sessB (v :: ws) false = true from this)]
     cases ws with
     | nil => show none = (match sessW v with | none => none | some n => _); rw [hs]
     | cons u ws => rfl
    | some n =>
     rw [hs] at this
     obtain ⟨e1, e2⟩ := this
     rw [e1, e2]
     cases ws with
     | nil => show _ = (match sessW v with | none => none | some n => _); rw [hs]; rfl
     | cons u ws => rfl
  by_cases h7 : w = [97, 115, 107]
  ·subst h7
   rw [if_pos rfl, if_neg (by decide), if_neg (by decide), if_neg (by decide), if_neg (by decide), if_neg (by decide), if_neg (by decide), if_pos rfl]
   cases ws with
   | nil =>
    rw [sessB_nil]
    exact endP_bad _ (askP_bad _)
   | cons v ws =>
    have := sessB_of v ws
    show _ = askC1 v ws
    unfold askC1
    cases hs : sessW v with
    | none =>
     rw [hs] at this
     rw [show sessB (v :: ws) false = true from this]
     exact endP_bad _ (askP_bad _)
    | some n =>
     rw [hs] at this
     obtain ⟨e1, e2⟩ := this
     rw [e1, e2]
     simp only [List.tail_cons]
     rw [askP_of ws]
     generalize askP ws false = r
     obtain ⟨a, vs, b⟩ := r
     cases b with
     | true => rfl
     | false => cases vs <;> rfl
  ·rw [if_neg h7, if_neg h6, if_neg h1, if_neg h2, if_neg h3, if_neg h5, if_neg h4, if_neg h1, if_neg h2, if_neg h3, if_neg h4, if_neg h5, if_neg h6, if_neg h7]
   exact endP_bad _ rfl
end Go.Proofs.YtglojnmcbochaaaGreatDoor

