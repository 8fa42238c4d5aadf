/-
  Lines, plain: the step that a line is, by a number's definition that can be reckoned; so closed lines are decided. No program in sight.
-/
import Derived.Test.YtglojnmcbochaaaGreatDoorRLnsP
namespace Go.Proofs.YtglojnmcbochaaaGreatDoor
open Go.Lib
set_option linter.unusedVariables false
set_option linter.unusedSimpArgs false

section
variable (num : List UInt8 → Option Int)
def num1CN (w : List UInt8) (ws : WS) : Option (Int × WS) := match num w with
  | none => none
  | some n => some (n, ws)
def num1N : WS → Option (Int × WS)
  | [] => none
  | w :: ws => num1CN num w ws
def partsN : WS → Option (List (List UInt8 × Int))
  | [] => some []
  | [_] => none
  | w :: v :: ws => match num v with
    | none => none
    | some n => match partsN ws with
      | none => none
      | some l => some ((w, n) :: l)
def takeN (x : AskV × WS) (c : Nat) : Option (AskV × WS) :=
  if c = 105 then (match x.2 with
    | [] => none
    | w :: ws => some ({ x.1 with item := w }, ws))
  else if c = 113 then (num1N num x.2).map fun r => ({ x.1 with qty := r.1 }, r.2)
  else if c = 100 then (num1N num x.2).map fun r => ({ x.1 with day := r.1 }, r.2)
  else if c = 108 then (num1N num x.2).map fun r => ({ x.1 with days := r.1 }, r.2)
  else if c = 114 then (num1N num x.2).map fun r => ({ x.1 with rank := r.1 }, r.2)
  else if c = 116 then (num1N num x.2).map fun r => ({ x.1 with lot := r.1 }, r.2)
  else if c = 110 then (num1N num x.2).map fun r => ({ x.1 with line := r.1 }, r.2)
  else if c = 112 then (partsN num x.2).map fun l => ({ x.1 with parts := x.1.parts ++ l }, [])
  else if c = 111 then some ({ x.1 with others := x.1.others ++ x.2 }, [])
  else some x
def optN (s : Option (AskV × WS)) (c : Nat) : Option (AskV × WS) := match s with
  | none => none
  | some x => takeN num x c
def askC2N (w v : List UInt8) (ws : WS) : Option AskV := match fieldsK (kindW w) with
  | none => none
  | some f => match num v with
    | none => none
    | some r => askE (f.foldl (optN num) (some ({ AskV.zero with kind := kindW w, request := r }, ws)))
def askN : WS → Option AskV
  | w :: v :: ws => askC2N num w v ws
  | _ => none
def fatesN : WS → Option (List Int)
  | [] => some []
  | w :: ws => match num w with
    | none => none
    | some n => match fatesN ws with
      | none => none
      | some l => some (n :: l)
def crashN (ws : WS) : Option StepV := match fatesN num ws with
  | none => none
  | some l => some { StepV.zero with kind := 5, fates := l }
def armN (ws : WS) : Option StepV := match num1N num ws with
  | some (n, []) => some { StepV.zero with kind := 7, num := n }
  | _ => none
def runN : WS → Option StepV
  | [v] => match sessO (num v) with
    | none => none
    | some n => some { StepV.zero with kind := 2, session := n }
  | _ => none
def askC1N (v : List UInt8) (ws : WS) : Option StepV := match sessO (num v) with
  | none => none
  | some n => match askN num ws with
    | none => none
    | some a => some { StepV.zero with kind := 1, session := n, ask := a }
def askC0N : WS → Option StepV
  | [] => none
  | v :: ws => askC1N num v ws
def stepCN (w : List UInt8) (ws : WS) : Option StepV :=
  if w = [102, 108, 117, 115, 104] then only ws { StepV.zero with kind := 3 }
  else if w = [109, 97, 114, 107] then only ws { StepV.zero with kind := 4 }
  else if w = [111, 112, 101, 110] then only ws { StepV.zero with kind := 6 }
  else if w = [99, 114, 97, 115, 104] then crashN num ws
  else if w = [97, 114, 109] then armN num ws
  else if w = [114, 117, 110] then runN num ws
  else if w = [97, 115, 107] then askC0N num ws
  else none
def stepN : WS → Option StepV
  | [] => none
  | w :: ws => stepCN num w ws
end
theorem num1N_eq : num1N numL = num1 := by funext l; cases l <;> rfl
theorem partsN_eq : ∀ l, partsN numL l = partsW l
  | [] => rfl
  | [_] => rfl
  | w :: v :: ws => by
    unfold partsN partsW
    rw [partsN_eq ws]
    rfl
theorem takeN_eq : takeN numL = takeF := by
  funext x c
  unfold takeN takeF
  rw [num1N_eq, partsN_eq]
  rfl
theorem optN_eq : optN numL = optF := by
  funext s c
  unfold optN optF
  rw [takeN_eq]
  rfl
theorem askN_eq : askN numL = askW := by
  funext l
  match l with
  | [] => rfl
  | [_] => rfl
  | w :: v :: ws =>
    show askC2N numL w v ws = askC2 w v ws
    unfold askC2N askC2
    rw [optN_eq]
    rfl
theorem fatesN_eq : ∀ l, fatesN numL l = fatesW l
  | [] => rfl
  | w :: ws => by
    unfold fatesN fatesW
    rw [fatesN_eq ws]
    rfl
theorem stepN_eq : stepN numL = stepW := by
  funext l
  match l with
  | [] => rfl
  | w :: ws =>
    show stepCN numL w ws = stepC w ws
    have h1 : crashN numL ws = crashC ws := by unfold crashN crashC; rw [fatesN_eq]; rfl
    have h2 : armN numL ws = armC ws := by unfold armN armC; rw [num1N_eq]; rfl
    have h3 : runN numL ws = runC ws := by
      match ws with
      | [] => rfl
      | [v] => rfl
      | _ :: _ :: _ => rfl
    have h4 : askC0N numL ws = askC0 ws := by
      match ws with
      | [] => rfl
      | v :: ws =>
        show askC1N numL v ws = askC1 v ws
        unfold askC1N askC1
        rw [askN_eq]
        rfl
    unfold stepCN stepC
    rw [h1, h2, h3, h4]
theorem stepW_ref (l : WS) : stepW l = stepN refNum l := by
  rw [← stepN_eq]
  have : numL = refNum := by funext l; exact (refNum_eq l).symm
  rw [this]
theorem stepL_ref (l : List UInt8) : stepL l = stepN refNum (wordsL l) := stepW_ref _
end Go.Proofs.YtglojnmcbochaaaGreatDoor

