/-
  Lines, plain: which step a line's words are, and in which words a tale is told. No program in sight.
-/
import Derived.Test.YtglojnmcbochaaaGreatDoorRWrdP
import Derived.Test.YtglojnmcbochaaaGreatDoorRAskQ
import Derived.Test.YtglojnmcbochaaaGreatDoorRCodN
namespace Go.Proofs.YtglojnmcbochaaaGreatDoor
open Go.Lib
set_option linter.unusedVariables false
set_option linter.unusedSimpArgs false

abbrev WS := List (List UInt8)
/-- The kinds' words, and their fields as texts. -/
def verbT : WS := [[], [105, 116, 101, 109], [107, 105, 116], [111, 116, 104, 101, 114, 115], [114, 101, 99, 101, 105, 118, 101], [111, 114, 100, 101, 114], [100, 117, 101], [100, 114, 111, 112], [97, 114, 114, 105, 118, 101], [110, 101, 101, 100], [99, 97, 110, 99, 101, 108], [115, 104, 105, 112], [116, 105, 99, 107], [119, 104, 101, 110], [108, 105, 110, 101], [115, 116, 111, 99, 107]]
def verbF : List (List Nat) := [[], [105, 108], [105, 112], [105, 111], [105, 113], [105, 113, 100], [116, 100], [116], [116], [105, 113, 100, 114], [110], [110], [], [105, 113, 100], [110], [105]]
/-- The kind that a word says; 0: none. -/
def kindW (w : List UInt8) : Int :=
  if w = [105, 116, 101, 109] then 1 else if w = [107, 105, 116] then 2 else if w = [111, 116, 104, 101, 114, 115] then 3 else if w = [114, 101, 99, 101, 105, 118, 101] then 4 else if w = [111, 114, 100, 101, 114] then 5 else if w = [100, 117, 101] then 6 else if w = [100, 114, 111, 112] then 7 else if w = [97, 114, 114, 105, 118, 101] then 8 else if w = [110, 101, 101, 100] then 9 else if w = [99, 97, 110, 99, 101, 108] then 10 else if w = [115, 104, 105, 112] then 11 else if w = [116, 105, 99, 107] then 12 else if w = [119, 104, 101, 110] then 13 else if w = [108, 105, 110, 101] then 14 else if w = [115, 116, 111, 99, 107] then 15 else 0
def num1C (w : List UInt8) (ws : WS) : Option (Int × WS) := match numL w with
  | none => none
  | some n => some (n, ws)
def num1 : WS → Option (Int × WS)
  | [] => none
  | w :: ws => num1C w ws
def partsW : WS → Option (List (List UInt8 × Int))
  | [] => some []
  | [_] => none
  | w :: v :: ws => match numL v with
    | none => none
    | some n => match partsW ws with
      | none => none
      | some l => some ((w, n) :: l)
/-- A field is taken of words. -/
def takeF (x : AskV × WS) (c : Nat) : Option (AskV × WS) :=
  if c = 105 then (match x.2 with
    | [] => none
    | w :: ws => some ({ x.1 with item := w }, ws))
  else if c = 113 then (num1 x.2).map fun r => ({ x.1 with qty := r.1 }, r.2)
  else if c = 100 then (num1 x.2).map fun r => ({ x.1 with day := r.1 }, r.2)
  else if c = 108 then (num1 x.2).map fun r => ({ x.1 with days := r.1 }, r.2)
  else if c = 114 then (num1 x.2).map fun r => ({ x.1 with rank := r.1 }, r.2)
  else if c = 116 then (num1 x.2).map fun r => ({ x.1 with lot := r.1 }, r.2)
  else if c = 110 then (num1 x.2).map fun r => ({ x.1 with line := r.1 }, r.2)
  else if c = 112 then (partsW x.2).map fun l => ({ x.1 with parts := x.1.parts ++ l }, [])
  else if c = 111 then some ({ x.1 with others := x.1.others ++ x.2 }, [])
  else some x
def optF (s : Option (AskV × WS)) (c : Nat) : Option (AskV × WS) := match s with
  | none => none
  | some x => takeF x c
/-- The command that words say. -/
def askE : Option (AskV × WS) → Option AskV
  | some (a, []) => if rightA a then some a else none
  | _ => none
def askC2 (w v : List UInt8) (ws : WS) : Option AskV := match fieldsK (kindW w) with
  | none => none
  | some f => match numL v with
    | none => none
    | some r => askE (f.foldl optF (some ({ AskV.zero with kind := kindW w, request := r }, ws)))
def askW : WS → Option AskV
  | w :: v :: ws => askC2 w v ws
  | _ => none
structure StepV where
  kind : Int
  session : Int
  num : Int
  ask : AskV
  fates : List Int
def StepV.zero : StepV := ⟨0, 0, 0, AskV.zero, []⟩
/-- A session's number. -/
def sessO : Option Int → Option Int
  | none => none
  | some n => if 0 ≤ n ∧ n < 4 then some n else none
def sessW (w : List UInt8) : Option Int := sessO (numL w)
def fatesW : WS → Option (List Int)
  | [] => some []
  | w :: ws => match numL w with
    | none => none
    | some n => match fatesW ws with
      | none => none
      | some l => some (n :: l)
def only (ws : WS) (x : StepV) : Option StepV := match ws with
  | [] => some x
  | _ => none
def crashC (ws : WS) : Option StepV := match fatesW ws with
  | none => none
  | some l => some { StepV.zero with kind := 5, fates := l }
def armC (ws : WS) : Option StepV := match num1 ws with
  | some (n, []) => some { StepV.zero with kind := 7, num := n }
  | _ => none
def runC : WS → Option StepV
  | [v] => match sessW v with
    | none => none
    | some n => some { StepV.zero with kind := 2, session := n }
  | _ => none
def askC1 (v : List UInt8) (ws : WS) : Option StepV := match sessW v with
  | none => none
  | some n => match askW ws with
    | none => none
    | some a => some { StepV.zero with kind := 1, session := n, ask := a }
def askC0 : WS → Option StepV
  | [] => none
  | v :: ws => askC1 v ws
def stepC (w : List UInt8) (ws : WS) : Option StepV :=
  if w = [102, 108, 117, 115, 104] then only ws { StepV.zero with kind := 3 }
  else if w = [109, 97, 114, 107] then only ws { StepV.zero with kind := 4 }
  else if w = [111, 112, 101, 110] then only ws { StepV.zero with kind := 6 }
  else if w = [99, 114, 97, 115, 104] then crashC ws
  else if w = [97, 114, 109] then armC ws
  else if w = [114, 117, 110] then runC ws
  else if w = [97, 115, 107] then askC0 ws
  else none
/-- The step that words say. -/
def stepW : WS → Option StepV
  | [] => none
  | w :: ws => stepC w ws
/-- The step that a line is. -/
def stepL (l : List UInt8) : Option StepV := stepW (wordsL l)

/-! Told. -/
structure LotV where
  id : Int
  item : List UInt8
  frm : Int
  til : Int
  qty : Int
  here : Bool
structure UseV where
  want : Int
  lot : Int
  qty : Int
structure TellV where
  err : Int
  id : Int
  day : Int
  code : List UInt8
  state : Int
  lots : List LotV
  uses : List UseV
structure TaleV where
  kind : Int
  at_ : Int
  session : Int
  ask : AskV
  tell : TellV
def TellV.zero : TellV := ⟨0, 0, 0, [], 0, [], []⟩
def lotB (l : LotV) : Bool := decide (0 < l.id) && (codeL l.item && (decide (0 ≤ l.frm) && (decide (l.frm < l.til) && (decide (l.til ≤ 4001) && withinB l.qty 1 1073741824))))
def useB (u : UseV) : Bool := decide (0 ≤ u.want) && (decide (0 < u.lot) && decide (0 < u.qty))
def bareT (t : TellV) : Bool := decide (t.id = 0) && (decide (t.day = 0) && (decide (t.code = []) && (decide (t.state = 0) && (decide (t.lots = []) && decide (t.uses = [])))))
/-- Is an answer right? -/
def rightT (t : TellV) : Bool :=
  if t.err < 0 ∨ 999 < t.err then false else if t.err ≠ 0 then bareT t
  else withinB t.id 0 9223372036854775807 && (withinB t.day (-1) 4000 && ((decide (t.code = []) || codeL t.code) && (decide (t.state ≤ 3) && (decide (t.lots.length ≤ 300) && (decide (t.uses.length ≤ 2000) && (t.lots.all lotB && t.uses.all useB))))))
/-- A field's words. -/
def fieldW (a : AskV) (c : Nat) : WS :=
  if c = 105 then [a.item] else if c = 113 then [itoa a.qty] else if c = 100 then [itoa a.day] else if c = 108 then [itoa a.days] else if c = 114 then [itoa a.rank] else if c = 116 then [itoa a.lot]
  else if c = 110 then [itoa a.line] else if c = 112 then a.parts.flatMap (fun p => [p.1, itoa p.2]) else if c = 111 then a.others else []
def wordOf (k : Int) : List UInt8 := verbT.getD k.toNat []
/-- A command's words. -/
def asksW (a : AskV) : WS := if rightA a then wordOf a.kind :: itoa a.request :: ((fieldsK a.kind).getD []).flatMap (fieldW a) else [[110, 111, 110, 101]]
def lotW (l : LotV) : WS := [[108, 111, 116], itoa l.id, l.item, itoa l.frm, itoa l.til, itoa l.qty, itoa (if l.here then 1 else 0)]
def useW (u : UseV) : WS := [[117, 115, 101], itoa u.want, itoa u.lot, itoa u.qty]
/-- An answer's words. -/
def tellsW (t : TellV) : WS :=
  if rightT t then (if t.err ≠ 0 then [[101, 114, 114, 111, 114], itoa t.err]
    else [111, 107] :: itoa t.id :: itoa t.day :: (if t.code = [] then [45] else t.code) :: itoa t.state :: (t.lots.flatMap lotW ++ t.uses.flatMap useW))
  else [[110, 111, 110, 101]]
/-- A tale's words. -/
def toldW (t : TaleV) : WS :=
  itoa t.at_ :: (if t.kind = 1 then [97, 115, 107, 115] :: itoa t.session :: asksW t.ask else if t.kind = 2 then [116, 101, 108, 108, 115] :: itoa t.session :: tellsW t.tell else if t.kind = 3 then [[100, 111, 119, 110]] else if t.kind = 4 then [[111, 112, 101, 110]] else [[110, 111, 110, 101]])
/-- Words, each with a byte 32 ahead. -/
def each32 (ws : WS) : List UInt8 := ws.flatMap fun p => 32 :: p
/-- A tale's line. -/
def toldL (t : TaleV) : List UInt8 := Go.Lib.join (toldW t) [32]
theorem each32_cons (p : List UInt8) (ws : WS) : each32 (p :: ws) = 32 :: p ++ each32 ws := by unfold each32; rw [List.flatMap_cons]
theorem told_eq (t : TaleV) : ∃ ws, toldW t = itoa t.at_ :: ws ∧ toldL t = itoa t.at_ ++ each32 ws := by
  unfold toldL toldW
  exact ⟨_, rfl, join32 _ _⟩

/-! What is told is read. -/
/-- What a word is: not empty, all of its bytes from 33 to 126. -/
def wordB (p : List UInt8) : Prop := p ≠ [] ∧ ∀ c ∈ p, 33 ≤ c.toNat ∧ c.toNat ≤ 126
theorem wordB.ne {p : List UInt8} (h : wordB p) : p ≠ [] ∧ ∀ c ∈ p, c ≠ 32 := ⟨h.1, fun c hc e => by have := (h.2 c hc).1; subst e; revert this; decide⟩
theorem itoa_word (v : Int) : wordB (itoa v) := by
  have hd : ∀ u, decDigits u ≠ [] ∧ ∀ c ∈ decDigits u, 33 ≤ c.toNat ∧ c.toNat ≤ 126 := fun u => ⟨decDigits_ne u, fun c hc => by
    have := decDigits_dig u c hc
    unfold digB at this
    omega⟩
  unfold itoa
  split
  · refine ⟨by simp, fun c hc => ?_⟩
    rcases List.mem_cons.1 hc with rfl | hc
    · decide
    · exact (hd _).2 c hc
  · exact hd _
theorem okFrom_byte (l : List UInt8) (i : Nat) (h : okFrom i l = true) : ∀ c ∈ l, 33 ≤ c.toNat ∧ c.toNat ≤ 126 := by
  induction l generalizing i with
  | nil => simp
  | cons c l ih =>
    unfold okFrom at h
    simp only [Bool.and_eq_true] at h
    intro d hd
    rcases List.mem_cons.1 hd with rfl | hd
    · have := h.1
      unfold okAt upper digit at this
      simp only [Bool.or_eq_true, Bool.and_eq_true, decide_eq_true_eq, beq_iff_eq] at this
      omega
    · exact ih _ h.2 d hd
theorem code_word {l : List UInt8} (h : codeL l = true) : wordB l := by
  unfold codeL at h
  simp only [Bool.and_eq_true, decide_eq_true_eq] at h
  refine ⟨?_, okFrom_byte l 0 h.2⟩
  rintro rfl
  simp at h
theorem kindW_of {k : Int} {f : List Nat} (h : fieldsK k = some f) : kindW (wordOf k) = k ∧ wordB (wordOf k) ∧ verbF.getD k.toNat [] = f := by
  obtain ⟨h1, h2⟩ := fieldsK_range h
  rcases (show k = 1 ∨ k = 2 ∨ k = 3 ∨ k = 4 ∨ k = 5 ∨ k = 6 ∨ k = 7 ∨ k = 8 ∨ k = 9 ∨ k = 10 ∨ k = 11 ∨ k = 12 ∨ k = 13 ∨ k = 14 ∨ k = 15 by omega) with rfl | rfl | rfl | rfl | rfl | rfl | rfl | rfl | rfl | rfl | rfl | rfl | rfl | rfl | rfl
  all_goals
    unfold fieldsK at h
    simp only [Int.reduceEq, if_true, if_false] at h
    injection h with h
    subst h
    refine ⟨by decide, ⟨by decide, by decide⟩, by decide⟩
theorem num1_itoa (v : Int) (h : int64 v) (ws : WS) : num1 (itoa v :: ws) = some (v, ws) := by
  show num1C (itoa v) ws = _
  unfold num1C
  rw [numL_itoa v h]
theorem partsW_of (l : List (List UInt8 × Int)) (h : ∀ p ∈ l, int64 p.2) : partsW (l.flatMap fun p => [p.1, itoa p.2]) = some l := by
  induction l with
  | nil => rfl
  | cons p l ih =>
    rw [List.flatMap_cons]
    show partsW (p.1 :: itoa p.2 :: (l.flatMap fun p => [p.1, itoa p.2])) = _
    unfold partsW
    rw [numL_itoa _ (h p (by simp))]
    simp only
    rw [ih (fun q hq => h q (by simp [hq]))]
/-- All numbers of a command are int64s. -/
def ask64 (a : AskV) : Prop := int64 a.request ∧ int64 a.lot ∧ int64 a.line
theorem takeF_of {a x : AskV} {c : Nat} (h : okF a c = true) (ha : ask64 a) (hc : c ∈ letters) (hp : c = 112 → x.parts = []) (ho : c = 111 → x.others = []) (r : WS) (hr : c = 112 ∨ c = 111 → r = []) : takeF (x, fieldW a c ++ r) c = some (setF a x c, r) := by
  unfold letters at hc
  simp only [List.mem_cons, List.not_mem_nil, or_false] at hc
  obtain ⟨g1, g2, g3⟩ := ha
  rcases hc with rfl | rfl | rfl | rfl | rfl | rfl | rfl | rfl | rfl <;> simp only [okF, fieldW, takeF, setF, Nat.reduceEqDiff, if_true, if_false, List.cons_append, List.nil_append, true_or, or_true, forall_const] at h hr hp ho ⊢
  · have := withinB_iff.1 h
    rw [num1_itoa _ (by unfold int64; omega)]
    rfl
  · have := withinB_iff.1 h
    rw [num1_itoa _ (by unfold int64; omega)]
    rfl
  · have := withinB_iff.1 h
    rw [num1_itoa _ (by unfold int64; omega)]
    rfl
  · have := withinB_iff.1 h
    rw [num1_itoa _ (by unfold int64; omega)]
    rfl
  · rw [num1_itoa _ g2]
    rfl
  · rw [num1_itoa _ g3]
    rfl
  · subst hr
    rw [List.append_nil, partsW_of _ (fun p hp => by have := (partsB_mem h).2.2 p hp; unfold int64; omega), hp]
    rfl
  · subst hr
    rw [List.append_nil, ho]
    rfl
theorem setF_lists (a x : AskV) (c : Nat) : (c ≠ 112 → (setF a x c).parts = x.parts) ∧ (c ≠ 111 → (setF a x c).others = x.others) := by
  refine ⟨fun h => ?_, fun h => ?_⟩
  · unfold setF
    repeat' split
    all_goals first | rfl | (exfalso; exact h (by assumption))
  · unfold setF
    repeat' split
    all_goals first | rfl | (exfalso; exact h (by assumption))
theorem foldW_of {a : AskV} (ha : ask64 a) : ∀ (f : List Nat) (x : AskV), (∀ c ∈ f, okF a c = true ∧ c ∈ letters) → (∀ u v c, f = u ++ c :: v → c = 112 ∨ c = 111 → v = []) → (112 ∈ f → x.parts = []) → (111 ∈ f → x.others = []) → f.foldl optF (some (x, f.flatMap (fieldW a))) = some (f.foldl (setF a) x, [])
  | [], x, _, _, _, _ => rfl
  | c :: f, x, h, hl, hp, ho => by
    rw [List.flatMap_cons, List.foldl_cons, List.foldl_cons]
    have e : optF (some (x, fieldW a c ++ f.flatMap (fieldW a))) c = some (setF a x c, f.flatMap (fieldW a)) :=
      takeF_of (h c (by simp)).1 ha (h c (by simp)).2 (fun e => hp (by simp [e])) (fun e => ho (by simp [e])) _ (fun hc => by
        rw [hl [] f c rfl hc]
        rfl)
    rw [e]
    exact foldW_of ha f _ (fun d hd => h d (by simp [hd])) (fun u v d e' hd => hl (c :: u) v d (by rw [e']; rfl) hd)
      (fun hm => by
        rw [(setF_lists a x c).1 (fun e1 => by rw [hl [] f c rfl (.inl e1)] at hm; cases hm)]
        exact hp (by simp [hm]))
      (fun hm => by
        rw [(setF_lists a x c).2 (fun e1 => by rw [hl [] f c rfl (.inr e1)] at hm; cases hm)]
        exact ho (by simp [hm]))
theorem kinds_last {f : List Nat} (h : f ∈ kindsL) : ∀ u v c, f = u ++ c :: v → c = 112 ∨ c = 111 → v = [] := by
  have hd : ∀ i < f.length, f.getD i 0 = 112 ∨ f.getD i 0 = 111 → i + 1 = f.length := by
    unfold kindsL at h
    simp only [List.mem_cons, List.not_mem_nil, or_false] at h
    rcases h with rfl | rfl | rfl | rfl | rfl | rfl | rfl | rfl | rfl | rfl | rfl <;> decide
  intro u v c e hc
  have := hd u.length (by rw [e, List.length_append, List.length_cons]; omega) (by
    rw [e, List.getD_eq_getElem?_getD, List.getElem?_append_right (Nat.le_refl _), Nat.sub_self]
    exact hc)
  rw [e, List.length_append, List.length_cons] at this
  exact List.length_eq_zero_iff.1 (by omega)
theorem right_ok {a : AskV} (h : rightA a = true) : ∃ f, fieldsK a.kind = some f ∧ (∀ c ∈ f, okF a c = true ∧ c ∈ letters) ∧ f.foldl (setF a) { AskV.zero with kind := a.kind, request := a.request } = a := by
  obtain ⟨f, hf, _, _, h3⟩ := rightA_some h
  obtain ⟨_, _, k3⟩ := fieldsK_some hf
  refine ⟨f, hf, fun c hc => ?_, set_all hf h3⟩
  have := h3 c (k3 c hc)
  unfold fitF at this
  rw [if_pos (by simpa using hc)] at this
  exact ⟨this, k3 c hc⟩
/-- THE STAGE'S LAW: the words in which a right command is told say it. -/
theorem askW_of {a : AskV} (h : rightA a = true) (ha : ask64 a) : askW (asksW a) = some a := by
  obtain ⟨f, hf, hok, hall⟩ := right_ok h
  unfold asksW
  rw [if_pos h, hf]
  simp only [Option.getD_some]
  show askC2 _ _ _ = _
  unfold askC2
  rw [(kindW_of hf).1, hf]
  simp only
  rw [numL_itoa _ ha.1]
  simp only
  rw [foldW_of ha f _ hok (kinds_last (fieldsK_kinds hf)) (fun _ => rfl) (fun _ => rfl), hall]
  show (if rightA a then some a else none) = _
  rw [if_pos h]
theorem askW_none : askW [[110, 111, 110, 101]] = none := rfl
theorem field_words {a : AskV} {c : Nat} (h : okF a c = true) (hc : c ∈ letters) : ∀ p ∈ fieldW a c, wordB p := by
  have hi := itoa_word
  intro p hp
  unfold letters at hc
  simp only [List.mem_cons, List.not_mem_nil, or_false] at hc
  rcases hc with rfl | rfl | rfl | rfl | rfl | rfl | rfl | rfl | rfl <;> simp only [okF, fieldW, Nat.reduceEqDiff, if_true, if_false, List.mem_singleton] at h hp
  · subst hp; exact code_word h
  · subst hp; exact hi _
  · subst hp; exact hi _
  · subst hp; exact hi _
  · subst hp; exact hi _
  · subst hp; exact hi _
  · subst hp; exact hi _
  · obtain ⟨q, hq, hp⟩ := List.mem_flatMap.1 hp
    have := (partsB_mem h).2.2 q hq
    rcases List.mem_cons.1 hp with rfl | hp
    · exact code_word this.1
    · rw [List.mem_singleton] at hp
      subst hp
      exact hi _
  · exact code_word ((othersB_mem h).2 p hp)
theorem asks_words (a : AskV) : ∀ p ∈ asksW a, wordB p := by
  intro p hp
  unfold asksW at hp
  split at hp
  · rename_i h
    obtain ⟨f, hf, hok, _⟩ := right_ok h
    rw [hf] at hp
    simp only [Option.getD_some] at hp
    rcases List.mem_cons.1 hp with rfl | hp
    · exact (kindW_of hf).2.1
    · rcases List.mem_cons.1 hp with rfl | hp
      · exact itoa_word _
      · obtain ⟨c, hc, hp⟩ := List.mem_flatMap.1 hp
        exact field_words (hok c hc).1 (hok c hc).2 p hp
  · rw [List.mem_singleton] at hp
    subst hp
    exact ⟨by decide, by decide⟩
theorem tells_words (t : TellV) : ∀ p ∈ tellsW t, wordB p := by
  have hi := itoa_word
  intro p hp
  unfold tellsW at hp
  split at hp
  · rename_i h
    split at hp
    · simp only [List.mem_cons, List.not_mem_nil, or_false] at hp
      rcases hp with rfl | rfl
      · exact ⟨by decide, by decide⟩
      · exact hi _
    · rename_i he
      unfold rightT at h
      split at h
      · cases h
      · try rw [if_neg he] at h
        simp only [Bool.and_eq_true, Bool.or_eq_true, decide_eq_true_eq] at h
        obtain ⟨_, _, hc, _, _, _, hl, hu⟩ := h
        simp only [List.mem_cons, List.mem_append] at hp
        rcases hp with rfl | rfl | rfl | rfl | rfl | hp | hp
        · exact ⟨by decide, by decide⟩
        · exact hi _
        · exact hi _
        · split
          · exact ⟨by decide, by decide⟩
          · rename_i hne
            rcases hc with hc | hc
            · exact absurd hc hne
            · exact code_word hc
        · exact hi _
        · obtain ⟨l, hl', hp⟩ := List.mem_flatMap.1 hp
          have := List.all_eq_true.1 hl l hl'
          unfold lotB at this
          simp only [Bool.and_eq_true] at this
          unfold lotW at hp
          simp only [List.mem_cons, List.not_mem_nil, or_false] at hp
          rcases hp with rfl | rfl | rfl | rfl | rfl | rfl | rfl
          · exact ⟨by decide, by decide⟩
          · exact hi _
          · exact code_word this.2.1
          · exact hi _
          · exact hi _
          · exact hi _
          · exact hi _
        · obtain ⟨u, hu', hp⟩ := List.mem_flatMap.1 hp
          unfold useW at hp
          simp only [List.mem_cons, List.not_mem_nil, or_false] at hp
          rcases hp with rfl | rfl | rfl | rfl
          · exact ⟨by decide, by decide⟩
          · exact hi _
          · exact hi _
          · exact hi _
  · rw [List.mem_singleton] at hp
    subst hp
    exact ⟨by decide, by decide⟩
theorem told_words (t : TaleV) : ∀ p ∈ toldW t, wordB p := by
  have hi := itoa_word
  intro p hp
  unfold toldW at hp
  rcases List.mem_cons.1 hp with rfl | hp
  · exact hi _
  · split at hp
    · rcases List.mem_cons.1 hp with rfl | hp
      · exact ⟨by decide, by decide⟩
      · rcases List.mem_cons.1 hp with rfl | hp
        · exact hi _
        · exact asks_words _ p hp
    · split at hp
      · rcases List.mem_cons.1 hp with rfl | hp
        · exact ⟨by decide, by decide⟩
        · rcases List.mem_cons.1 hp with rfl | hp
          · exact hi _
          · exact tells_words _ p hp
      · split at hp
        · rw [List.mem_singleton] at hp; subst hp; exact ⟨by decide, by decide⟩
        · split at hp
          · rw [List.mem_singleton] at hp; subst hp; exact ⟨by decide, by decide⟩
          · rw [List.mem_singleton] at hp; subst hp; exact ⟨by decide, by decide⟩
theorem each32_bytes {ws : WS} (h : ∀ p ∈ ws, wordB p) : ∀ c ∈ each32 ws, 32 ≤ c.toNat ∧ c.toNat ≤ 126 := by
  intro c hc
  unfold each32 at hc
  obtain ⟨p, hp, hc⟩ := List.mem_flatMap.1 hc
  rcases List.mem_cons.1 hc with rfl | hc
  · decide
  · have := (h p hp).2 c hc
    omega
/-- No line that is told has a byte below 32 or above 126. -/
theorem told_bytes (t : TaleV) : ∀ c ∈ toldL t, 32 ≤ c.toNat ∧ c.toNat ≤ 126 := by
  obtain ⟨ws, h1, h2⟩ := told_eq t
  have hw := told_words t
  rw [h1] at hw
  rw [h2]
  intro c hc
  rcases List.mem_append.1 hc with hc | hc
  · have := (hw _ (by simp)).2 c hc
    omega
  · exact each32_bytes (fun p hp => hw p (by simp [hp])) c hc
theorem words_each (ws : WS) (h : ∀ p ∈ ws, wordB p) : wordsL (each32 ws) = ws := words_join fun p hp => (h p hp).ne
/-- What LinesBack reads: blanks, ask, blanks, a session, a command's words, a blank. -/
theorem back_words (s : Int) (ws : WS) (h : ∀ p ∈ ws, wordB p) : wordsL ([32, 32, 97, 115, 107, 32, 32] ++ (itoa s ++ each32 ws) ++ [32]) = [97, 115, 107] :: itoa s :: ws := by
  rw [words_behind]
  have e : [32, 32, 97, 115, 107, 32, 32] ++ (itoa s ++ each32 ws) = 32 :: 32 :: ([97, 115, 107] ++ 32 :: each32 (itoa s :: ws)) := by
    rw [each32_cons]
    simp
  rw [e, words_blank, words_blank, words_cons _ (by decide) (by decide), words_each]
  intro p hp
  rcases List.mem_cons.1 hp with rfl | hp
  · exact itoa_word _
  · exact h p hp
theorem back_step (s : Int) (hs : 0 ≤ s ∧ s < 4) (ws : WS) : stepW ([97, 115, 107] :: itoa s :: ws) = match askW ws with
    | none => none
    | some a => some { StepV.zero with kind := 1, session := s, ask := a } := by
  have e : sessW (itoa s) = some s := by
    unfold sessW
    rw [numL_itoa s (by unfold int64; omega)]
    show (if 0 ≤ s ∧ s < 4 then some s else none) = _
    rw [if_pos hs]
  show stepC _ _ = _
  unfold stepC
  rw [if_neg (by decide), if_neg (by decide), if_neg (by decide), if_neg (by decide), if_neg (by decide), if_neg (by decide), if_pos rfl]
  show askC1 _ _ = _
  unfold askC1
  rw [e]
/-- THE STAGE'S THEOREM, plain. -/
theorem back_plain (s : Int) (hs : 0 ≤ s ∧ s < 4) (a : AskV) (ha : ask64 a) : stepL ([32, 32, 97, 115, 107, 32, 32] ++ (itoa s ++ each32 (asksW a)) ++ [32]) = if rightA a then some { StepV.zero with kind := 1, session := s, ask := a } else none := by
  unfold stepL
  rw [back_words s _ (asks_words a), back_step s hs]
  by_cases h : rightA a = true
  · rw [if_pos h, askW_of h ha]
  · rw [if_neg h]
    have e : asksW a = [[110, 111, 110, 101]] := by
      unfold asksW
      rw [if_neg h]
    rw [e, askW_none]
/-! Blanks. -/
end Go.Proofs.YtglojnmcbochaaaGreatDoor

