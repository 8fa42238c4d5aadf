/-
 ytglojnmcbochaaagreatdoor: laws and walks on the road to LinesNumbers, joined: LnsN Aw3 NmP. Conditions stand at each theorem.
-/
import Derived.Test.YtglojnmcbochaaaGreatDoorULnsP
import Derived.Test.YtglojnmcbochaaaGreatDoorUKtS
import Derived.Test.YtglojnmcbochaaaGreatDoorUWrD
import Derived.Test.YtglojnmcbochaaaGreatDoorUShf
namespace Go.Proofs.YtglojnmcbochaaaGreatDoor
open Go.Lib
set_option linter.unusedVariables false
set_option linter.unusedSimpArgs false

section
variable (num : List UInt8 → Option Int)
def num1CN (w : List UInt8) (ws : WS) : Option (Int × WS) := match num w with
 | none => none
 | some n => some (n, ws)
def num1N : WS → Option (Int × WS)
 | [] => none
 | w :: ws => num1CN num w ws
def partsN : WS → Option (List (List UInt8 × Int))
 | [] => some []
 | [_] => none
 | w :: v :: ws => match num v with
  | none => none
  | some n => match partsN ws with
   | none => none
   | some l => some ((w, n) :: l)
def takeN (x : AskV × WS) (c : Nat) : Option (AskV × WS) :=
 if c = 105 then (match x.2 with
  | [] => none
  | w :: ws => some ({ x.1 with item := w }, ws))
 else if c = 113 then (num1N num x.2).map fun r => ({ x.1 with qty := r.1 }, r.2)
 else if c = 100 then (num1N num x.2).map fun r => ({ x.1 with day := r.1 }, r.2)
 else if c = 108 then (num1N num x.2).map fun r => ({ x.1 with days := r.1 }, r.2)
 else if c = 114 then (num1N num x.2).map fun r => ({ x.1 with rank := r.1 }, r.2)
 else if c = 116 then (num1N num x.2).map fun r => ({ x.1 with lot := r.1 }, r.2)
 else if c = 110 then (num1N num x.2).map fun r => ({ x.1 with line := r.1 }, r.2)
 else if c = 112 then (partsN num x.2).map fun l => ({ x.1 with parts := x.1.parts ++ l }, [])
 else if c = 111 then some ({ x.1 with others := x.1.others ++ x.2 }, [])
 else some x
def optN (s : Option (AskV × WS)) (c : Nat) : Option (AskV × WS) := match s with
 | none => none
 | some x => takeN num x c
def askC2N (w v : List UInt8) (ws : WS) : Option AskV := match fieldsK (kindW w) with
 | none => none
 | some f => match num v with
  | none => none
  | some r => askE (f.foldl (optN num) (some ({ AskV.zero with kind := kindW w, request := r }, ws)))
def askN : WS → Option AskV
 | w :: v :: ws => askC2N num w v ws
 | _ => none
def fatesN : WS → Option (List Int)
 | [] => some []
 | w :: ws => match num w with
  | none => none
  | some n => match fatesN ws with
   | none => none
   | some l => some (n :: l)
def crashN (ws : WS) : Option StepV := match fatesN num ws with
 | none => none
 | some l => some { StepV.zero with kind := 5, fates := l }
def armN (ws : WS) : Option StepV := match num1N num ws with
 | some (n, []) => some { StepV.zero with kind := 7, num := n }
 | _ => none
def runN : WS → Option StepV
 | [v] => match sessO (num v) with
  | none => none
  | some n => some { StepV.zero with kind := 2, session := n }
 | _ => none
def askC1N (v : List UInt8) (ws : WS) : Option StepV := match sessO (num v) with
 | none => none
 | some n => match askN num ws with
  | none => none
  | some a => some { StepV.zero with kind := 1, session := n, ask := a }
def askC0N : WS → Option StepV
 | [] => none
 | v :: ws => askC1N num v ws
def stepCN (w : List UInt8) (ws : WS) : Option StepV :=
 if w = [102, 108, 117, 115, 104] then only ws { StepV.zero with kind := 3 }
 else if w = [109, 97, 114, 107] then only ws { StepV.zero with kind := 4 }
 else if w = [111, 112, 101, 110] then only ws { StepV.zero with kind := 6 }
 else if w = [99, 114, 97, 115, 104] then crashN num ws
 else if w = [97, 114, 109] then armN num ws
 else if w = [114, 117, 110] then runN num ws
 else if w = [97, 115, 107] then askC0N num ws
 else none
def stepN : WS → Option StepV
 | [] => none
 | w :: ws => stepCN num w ws
end
theorem num1N_eq : num1N numL = num1 := by funext l; cases l <;> rfl
theorem partsN_eq : ∀ l, partsN numL l = partsW l
 | [] => rfl
 | [_] => rfl
 | w :: v :: ws => by
  unfold partsN partsW
  rw [partsN_eq ws]
  rfl
theorem takeN_eq : takeN numL = takeF := by
 funext x c
 unfold takeN takeF
 rw [num1N_eq, partsN_eq]
 rfl
theorem optN_eq : optN numL = optF := by
 funext s c
 unfold optN optF
 rw [takeN_eq]
 rfl
theorem askN_eq : askN numL = askW := by
 funext l
 match l with
 | [] => rfl
 | [_] => rfl
 | w :: v :: ws =>
  show askC2N numL w v ws = askC2 w v ws
  unfold askC2N askC2
  rw [optN_eq]
  rfl
theorem fatesN_eq : ∀ l, fatesN numL l = fatesW l
 | [] => rfl
 | w :: ws => by
  unfold fatesN fatesW
  rw [fatesN_eq ws]
  rfl
theorem stepN_eq : stepN numL = stepW := by
 funext l
 match l with
 | [] => rfl
 | w :: ws =>
  show stepCN numL w ws = stepC w ws
  have h1 : crashN numL ws = crashC ws := by unfold crashN crashC; rw [fatesN_eq]; rfl
  have h2 : armN numL ws = armC ws := by unfold armN armC; rw [num1N_eq]; rfl
  have h3 : runN numL ws = runC ws := by
   match ws with
   | [] => rfl
   | [v] => rfl
   | _ :: _ :: _ => rfl
  have h4 : askC0N numL ws = askC0 ws := by
   match ws with
   | [] => rfl
   | v :: ws =>
    show askC1N numL v ws = askC1 v ws
    unfold askC1N askC1
    rw [askN_eq]
    rfl
  unfold stepCN stepC
  rw [h1, h2, h3, h4]
theorem stepW_ref (l : WS) : stepW l = stepN refNum l := by
 rw [← stepN_eq]
 have : numL = refNum := by funext l; exact (refNum_eq l).symm
 rw [this]
theorem stepL_ref (l : List UInt8) : stepL l = stepN refNum (wordsL l) := stepW_ref _
end Go.Proofs.YtglojnmcbochaaaGreatDoor

namespace Go.Proofs.YtglojnmcbochaaaGreatDoor
open Go.RowKit Go.Maps
set_option linter.unusedVariables false
set_option linter.unusedSimpArgs false

theorem lineRes_of {l : List UInt8} {x : StepV} (hl : l.length ≤ 1048576) (h : stepN refNum (wordsL l) = some x) : lineRes l = (x, 0) := by
 unfold lineRes
 rw [if_neg (by omega), stepL_ref, h]
theorem lineRes_no {l : List UInt8} (hl : l.length ≤ 1048576) (h : stepN refNum (wordsL l) = none) : lineRes l = (StepV.zero, 310) := by
 unfold lineRes
 rw [if_neg (by omega), stepL_ref, h]
theorem itoa_one {n : Nat} (h : n < 10) : Lib.itoa n = [UInt8.ofNat (48 + n)] := by
 unfold Lib.itoa
 rw [if_neg (by omega), Lib.decDigits, dif_pos (by omega)]
 rfl
theorem itoa_two {n : Nat} (h : 10 ≤ n) (h2 : n < 100) : Lib.itoa n = [UInt8.ofNat (48 + n / 10), UInt8.ofNat (48 + n % 10)] := by
 unfold Lib.itoa
 rw [if_neg (by omega), Lib.decDigits, dif_neg (by omega), Lib.decDigits, dif_pos (by omega)]
 rfl
def aw31a : StepV := ⟨1, 1, 0, ⟨9, 7, [65], 5, 12, 0, 0, 0, 0, [], []⟩, []⟩
def aw31b : StepV := ⟨5, 0, 0, AskV.zero, [3, 70]⟩
def aw31t : TaleV := ⟨2, 9, 1, AskV.zero, ⟨0, 3, 12, [65], 1, [], []⟩⟩
theorem aw_line1 : lineRes [97, 115, 107, 32, 49, 32, 110, 101, 101, 100, 32, 55, 32, 65, 32, 53, 32, 49, 50, 32, 48] = (aw31a, 0) := lineRes_of (by decide) (by rfl)
theorem aw_line2 : lineRes [32, 99, 114, 97, 115, 104, 32, 32, 51, 32, 55, 48, 32] = (aw31b, 0) := lineRes_of (by decide) (by rfl)
theorem aw_line3 : lineRes [97, 115, 107, 32, 48, 32, 116, 105, 99, 107] = (StepV.zero, 310) := lineRes_no (by decide) (by rfl)
theorem aw_told : toldL aw31t = [57, 32, 116, 101, 108, 108, 115, 32, 49, 32, 111, 107, 32, 51, 32, 49, 50, 32, 65, 32, 49] := by
 have h9 := itoa_one (n := 9) (by decide)
 have h1 := itoa_one (n := 1) (by decide)
 have h3 := itoa_one (n := 3) (by decide)
 have h12 := itoa_two (n := 12) (by decide) (by decide)
 have e : toldW aw31t = [Lib.itoa (9 : Nat), [116, 101, 108, 108, 115], Lib.itoa (1 : Nat), [111, 107], Lib.itoa (3 : Nat), Lib.itoa (12 : Nat), [65], Lib.itoa (1 : Nat)] := by rfl
 unfold toldL
 rw [e, h9, h1, h3, h12]
 decide
theorem aw31t_ok : aw31t.Ok := ⟨(show isByte (2 : Int) by unfold isByte; decide), (show I64 (9 : Int) by unfold I64; decide), (show I64 (1 : Int) by unfold I64; decide), AskV.Ok.zero, ⟨(show I64 (0 : Int) by unfold I64; decide), (show I64 (3 : Int) by unfold I64; decide), (show I64 (12 : Int) by unfold I64; decide), (show strOk [65] by unfold strOk; decide), (show isByte (1 : Int) by unfold isByte; decide), by simp [aw31t], by simp [aw31t]⟩⟩
def TellS.nil : TellS := ⟨Sl.nil, Sl.nil⟩
theorem TellIs.nil (w : World) (t : TellV) (h1 : t.lots = []) (h2 : t.uses = []) : TellIs w t TellS.nil := ⟨by unfold SlL; rw [h1]; exact SlE.none_ w 6, by unfold SlU; rw [h2]; exact SlE.none_ w 3⟩
theorem askIs_nil (w : World) (a : AskV) (h1 : a.parts = []) (h2 : a.others = []) : AskIs w a AskS.nil := (AskOwn.nil w 0 a h1 h2).is
set_option maxRecDepth 100000 in
set_option maxHeartbeats 4000000 in
theorem awake31_any (w : World) (hv : VarsOk w) (hK : KindsOk w) (hV : VerbsOk w) : Calls Tryz.prog 8 #[] w (OkNew w) := by
 have H1 := is_any ⟨#[97, 115, 107, 32, 49, 32, 110, 101, 101, 100, 32, 55, 32, 65, 32, 53, 32, 49, 50, 32, 48]⟩ aw31a AskS.nil Sl.nil w hv hK hV (by decide) (StpIs.nil w _ rfl rfl rfl) aw_line1
 have H2 := hZ (fun (w' : World) (t : Turned (fun _ => False) w w') (Fs : Sl) (h : SlF w' Fs [3, 70]) => is_any ⟨#[32, 99, 114, 97, 115, 104, 32, 32, 51, 32, 55, 48, 32]⟩ aw31b AskS.nil Fs w' (hv.turned t) (hK.fresh t) (hV.fresh t) (by decide) ⟨askIs_nil w' _ rfl rfl, h⟩ aw_line2)
 have H3 := hZ (fun (w' : World) (t : Turned (fun _ => False) w w') => refused_any ⟨#[97, 115, 107, 32, 48, 32, 116, 105, 99, 107]⟩ w' (hv.turned t) (hK.fresh t) (hV.fresh t) (by decide) aw_line3)
 have H4 := hZ (fun (w' : World) (t : Turned (fun _ => False) w w') => ltell_any aw31t AskS.nil TellS.nil w' (hv.turned t) (hK.fresh t) (hV.fresh t) (askIs_nil w' _ rfl rfl) (TellIs.nil w' _ rfl rfl) aw31t_ok (by decide))
 clear hv hK hV
 have H1 := hZ H1
 unfold stpC aw31a AskS.nil Sl.nil strV at H1
 unfold stpC aw31b AskV.zero AskS.nil strV at H2
 unfold taleC aw31t AskV.zero AskS.nil TellS.nil Sl.nil strV at H4
 simp only at H1 H2 H4
 go_enter Tryz.func8, Tryz.ntmps8
 go_wp2_with fail
 refine H1.out.mono ?_
 rintro e w1 ⟨rfl, t1⟩
 have T1 := hZ t1
 clear t1 H1
 go_wp2_with fail
 have t2 := (Turned.refl (fun _ => False) w1).alloc (.cells #[.int .i64 3, .int .i64 70] 53)
 have hF : SlF (w1.alloc (.cells #[.int .i64 3, .int .i64 70] 53)) ⟨some ⟨w1.heap.size, 0, none⟩, 2, 2⟩ [3, 70] := OwnE.slF (T := 53) (OwnE.of_row (RowE.new w1 53 1 2 #[.int .i64 3, .int .i64 70] rfl (by unfold maxLen; omega)))
 refine (H2.out _ (T1.out.and_ t2) _ hF).mono ?_
 rintro e w3 ⟨rfl, t3⟩
 have T3 := hZ ((T1.out.and_ t2).and_ t3)
 clear t2 t3 T1 hF H2
 go_wp2_with fail
 refine (H3.out _ T3.out).mono ?_
 rintro e w4 ⟨rfl, t4⟩
 have T4 := hZ (T3.out.and_ t4)
 clear t4 T3 H3
 go_wp2_with fail
 refine (H4.out _ T4.out).mono ?_
 rintro e w5 ⟨rfl, t5⟩
 have T5 := hZ (T4.out.and_ t5)
 clear t5 T4 H4
 have hto := aw_told
 unfold aw31t AskV.zero at hto
 rw [hto]
 clear hto
 go_wp2_with fail
 go_ret
 exact ⟨rfl, T5.out⟩
structure LnVars (w : World) : Prop where
 vars : VarsOk w
 kinds : KindsOk w
 verbs : VerbsOk w
theorem LnVars.fresh {w w' : World} (h : LnVars w) (ht : Turned (fun _ => False) w w') : LnVars w' := ⟨h.vars.turned ht, h.kinds.fresh ht, h.verbs.fresh ht⟩
end Go.Proofs.YtglojnmcbochaaaGreatDoor

namespace Go.Proofs.YtglojnmcbochaaaGreatDoor
open Go.Lib
set_option linter.unusedVariables false
set_option linter.unusedSimpArgs false

def yesT : WS := [[102, 108, 117, 115, 104], [109, 97, 114, 107], [111, 112, 101, 110], [114, 117, 110, 32, 48], [114, 117, 110, 32, 51], [97, 114, 109, 32, 45, 57, 50, 50, 51, 51, 55, 50, 48, 51, 54, 56, 53, 52, 55, 55, 53, 56, 48, 56], [97, 114, 109, 32, 57, 50, 50, 51, 51, 55, 50, 48, 51, 54, 56, 53, 52, 55, 55, 53, 56, 48, 55], [99, 114, 97, 115, 104], [99, 114, 97, 115, 104, 32, 45, 49, 32, 48], [97, 115, 107, 32, 48, 32, 105, 116, 101, 109, 32, 48, 32, 65, 32, 53], [97, 115, 107, 32, 48, 32, 107, 105, 116, 32, 52, 54, 49, 49, 54, 56, 54, 48, 49, 56, 52, 50, 55, 51, 56, 55, 57, 48, 52, 32, 75, 32, 65, 32, 50, 32, 66, 32, 49, 48, 55, 51, 55, 52, 49, 56, 50, 52], [97, 115, 107, 32, 48, 32, 111, 116, 104, 101, 114, 115, 32, 48, 32, 65], [97, 115, 107, 32, 48, 32, 111, 116, 104, 101, 114, 115, 32, 48, 32, 65, 32, 66, 32, 67], [97, 115, 107, 32, 51, 32, 114, 101, 99, 101, 105, 118, 101, 32, 49, 32, 65, 32, 53], [97, 115, 107, 32, 48, 32, 111, 114, 100, 101, 114, 32, 48, 32, 65, 32, 53, 32, 52, 48, 48, 48], [97, 115, 107, 32, 48, 32, 100, 117, 101, 32, 48, 32, 49, 32, 48], [97, 115, 107, 32, 48, 32, 100, 114, 111, 112, 32, 48, 32, 57, 50, 50, 51, 51, 55, 50, 48, 51, 54, 56, 53, 52, 55, 55, 53, 56, 48, 55], [97, 115, 107, 32, 48, 32, 97, 114, 114, 105, 118, 101, 32, 48, 32, 49], [97, 115, 107, 32, 48, 32, 110, 101, 101, 100, 32, 48, 32, 65, 32, 49, 32, 48, 32, 57, 57], [97, 115, 107, 32, 48, 32, 99, 97, 110, 99, 101, 108, 32, 48, 32, 49], [97, 115, 107, 32, 48, 32, 115, 104, 105, 112, 32, 48, 32, 49], [97, 115, 107, 32, 48, 32, 116, 105, 99, 107, 32, 48], [97, 115, 107, 32, 48, 32, 119, 104, 101, 110, 32, 48, 32, 65, 32, 49, 32, 48], [97, 115, 107, 32, 48, 32, 108, 105, 110, 101, 32, 48, 32, 49], [97, 115, 107, 32, 48, 32, 115, 116, 111, 99, 107, 32, 48, 32, 65]]
def noT : WS := [[], [32], [97, 115, 107], [97, 115, 107, 32, 48], [97, 115, 107, 32, 52, 32, 116, 105, 99, 107, 32, 48], [97, 115, 107, 32, 45, 49, 32, 116, 105, 99, 107, 32, 48], [97, 115, 107, 32, 48, 32, 116, 105, 99, 107], [97, 115, 107, 32, 48, 32, 116, 105, 99, 107, 32, 48, 32, 49], [97, 115, 107, 32, 48, 32, 105, 116, 101, 109, 32, 48, 32, 97, 32, 53], [97, 115, 107, 32, 48, 32, 105, 116, 101, 109, 32, 48, 32, 65, 32, 48], [97, 115, 107, 32, 48, 32, 107, 105, 116, 32, 48, 32, 75, 32, 65], [97, 115, 107, 32, 48, 32, 107, 105, 116, 32, 48, 32, 75], [97, 115, 107, 32, 48, 32, 111, 116, 104, 101, 114, 115, 32, 48, 32, 65, 32, 65], [114, 117, 110], [114, 117, 110, 32, 52], [114, 117, 110, 32, 48, 32, 48], [102, 108, 117, 115, 104, 32, 49], [97, 114, 109], [97, 114, 109, 32, 49, 32, 49], [97, 114, 109, 32, 120], [99, 114, 97, 115, 104, 32, 49, 32, 120], [65, 115, 107, 32, 48, 32, 116, 105, 99, 107, 32, 48], [97, 115, 107, 9, 48, 32, 116, 105, 99, 107, 32, 48], [116, 105, 99, 107, 32, 48]]
def oddT : WS := [[97], [48, 49], [45, 49], [52], [52, 54, 49, 49, 54, 56, 54, 48, 49, 56, 52, 50, 55, 51, 56, 55, 57, 48, 53], [57, 50, 50, 51, 51, 55, 50, 48, 51, 54, 56, 53, 52, 55, 55, 53, 56, 48, 56], [65, 66, 67, 68, 69, 70, 71, 72, 73, 74, 75, 76, 77], [9]]
theorem yes_len : yesT.length = 25 := rfl
theorem no_len : noT.length = 24 := rfl
theorem odd_len : oddT.length = 8 := rfl
theorem yes_read : ∀ x ∈ yesT, ∃ s, lineRes ([32, 32] ++ x ++ [32]) = (s, 0) := by
 intro x hx
 unfold yesT at hx
 simp only [List.mem_cons, List.not_mem_nil, or_false] at hx
 rcases hx with rfl | rfl | rfl | rfl | rfl | rfl | rfl | rfl | rfl | rfl | rfl | rfl | rfl | rfl | rfl | rfl | rfl | rfl | rfl | rfl | rfl | rfl | rfl | rfl | rfl
 all_goals exact ⟨_, lineRes_of (by decide) rfl⟩
theorem yes_not : ∀ x ∈ yesT, lineRes ([120, 32] ++ x) = (StepV.zero, 310) := by
 intro x hx
 unfold yesT at hx
 simp only [List.mem_cons, List.not_mem_nil, or_false] at hx
 rcases hx with rfl | rfl | rfl | rfl | rfl | rfl | rfl | rfl | rfl | rfl | rfl | rfl | rfl | rfl | rfl | rfl | rfl | rfl | rfl | rfl | rfl | rfl | rfl | rfl | rfl
 all_goals exact lineRes_no (by decide) rfl
theorem no_not : ∀ x ∈ noT, lineRes x = (StepV.zero, 310) := by
 intro x hx
 unfold noT at hx
 simp only [List.mem_cons, List.not_mem_nil, or_false] at hx
 rcases hx with rfl | rfl | rfl | rfl | rfl | rfl | rfl | rfl | rfl | rfl | rfl | rfl | rfl | rfl | rfl | rfl | rfl | rfl | rfl | rfl | rfl | rfl | rfl | rfl
 all_goals exact lineRes_no (by decide) rfl
theorem yes_short : ∀ x ∈ yesT, x.length ≤ 60 ∧ ∀ b ∈ x, b.toNat < 128 := by decide
theorem no_short : ∀ x ∈ noT, x.length ≤ 60 := by decide
theorem odd_short : ∀ x ∈ oddT, x.length ≤ 21 := by decide
theorem yes_words : ∀ x ∈ yesT, 0 < (fields x).length ∧ (fields x).length ≤ 10 ∧ ∀ p ∈ fields x, p.length ≤ 21 := by decide
theorem words_blanks (n : Nat) (l : List UInt8) : wordsL (List.replicate n 32 ++ l) = wordsL l := by
 induction n with
 | zero => rfl
 | succ n ih => rw [List.replicate_succ, zG, words_blank, ih]
theorem mark_read : ∃ s, lineRes (List.replicate 1048572 32 ++ [109, 97, 114, 107]) = (s, 0) := by
 refine ⟨_, lineRes_of (x := ?_) (by rw [List.length_append, List.length_replicate]; decide) ?_⟩
 rotate_left
 rw [words_blanks]
 rfl
theorem mark_long : ∃ s, lineRes (List.replicate 1048573 32 ++ [109, 97, 114, 107]) = (s, 3) := by
 refine ⟨StepV.zero, ?_⟩
 unfold lineRes
 rw [if_pos (by rw [List.length_append, List.length_replicate]; decide)]
theorem many_blanks (n : Nat) : ∃ z : ByteArray, z = ⟨(List.replicate n 32).toArray⟩ ∧ z.data.toList = List.replicate n 32 ∧ z.size = n := ⟨_, rfl, by simp, by show (List.replicate n 32).toArray.size = n; simp⟩
end Go.Proofs.YtglojnmcbochaaaGreatDoor

