/-
  ytglojnmcbochaaagreatdoor: laws and walks on the road to LinesTales, joined: LnsN Aw3 Grt. Conditions stand at each theorem.
-/
import Derived.Test.YtglojnmcbochaaaGreatDoorTLnsP
import Derived.Test.YtglojnmcbochaaaGreatDoorTKtS
import Derived.Test.YtglojnmcbochaaaGreatDoorTWrD
import Derived.Test.YtglojnmcbochaaaGreatDoorTOpT
namespace Go.Proofs.YtglojnmcbochaaaGreatDoor
open Go.Lib
set_option linter.unusedVariables false
set_option linter.unusedSimpArgs false

section
variable (num : List UInt8 → Option Int)
def num1CN (w : List UInt8) (ws : WS) : Option (Int × WS) := match num w with
  | none => none
  | some n => some (n, ws)
def num1N : WS → Option (Int × WS)
  | [] => none
  | w :: ws => num1CN num w ws
def partsN : WS → Option (List (List UInt8 × Int))
  | [] => some []
  | [_] => none
  | w :: v :: ws => match num v with
    | none => none
    | some n => match partsN ws with
      | none => none
      | some l => some ((w, n) :: l)
def takeN (x : AskV × WS) (c : Nat) : Option (AskV × WS) :=
  if c = 105 then (match x.2 with
    | [] => none
    | w :: ws => some ({ x.1 with item := w }, ws))
  else if c = 113 then (num1N num x.2).map fun r => ({ x.1 with qty := r.1 }, r.2)
  else if c = 100 then (num1N num x.2).map fun r => ({ x.1 with day := r.1 }, r.2)
  else if c = 108 then (num1N num x.2).map fun r => ({ x.1 with days := r.1 }, r.2)
  else if c = 114 then (num1N num x.2).map fun r => ({ x.1 with rank := r.1 }, r.2)
  else if c = 116 then (num1N num x.2).map fun r => ({ x.1 with lot := r.1 }, r.2)
  else if c = 110 then (num1N num x.2).map fun r => ({ x.1 with line := r.1 }, r.2)
  else if c = 112 then (partsN num x.2).map fun l => ({ x.1 with parts := x.1.parts ++ l }, [])
  else if c = 111 then some ({ x.1 with others := x.1.others ++ x.2 }, [])
  else some x
def optN (s : Option (AskV × WS)) (c : Nat) : Option (AskV × WS) := match s with
  | none => none
  | some x => takeN num x c
def askC2N (w v : List UInt8) (ws : WS) : Option AskV := match fieldsK (kindW w) with
  | none => none
  | some f => match num v with
    | none => none
    | some r => askE (f.foldl (optN num) (some ({ AskV.zero with kind := kindW w, request := r }, ws)))
def askN : WS → Option AskV
  | w :: v :: ws => askC2N num w v ws
  | _ => none
def fatesN : WS → Option (List Int)
  | [] => some []
  | w :: ws => match num w with
    | none => none
    | some n => match fatesN ws with
      | none => none
      | some l => some (n :: l)
def crashN (ws : WS) : Option StepV := match fatesN num ws with
  | none => none
  | some l => some { StepV.zero with kind := 5, fates := l }
def armN (ws : WS) : Option StepV := match num1N num ws with
  | some (n, []) => some { StepV.zero with kind := 7, num := n }
  | _ => none
def runN : WS → Option StepV
  | [v] => match sessO (num v) with
    | none => none
    | some n => some { StepV.zero with kind := 2, session := n }
  | _ => none
def askC1N (v : List UInt8) (ws : WS) : Option StepV := match sessO (num v) with
  | none => none
  | some n => match askN num ws with
    | none => none
    | some a => some { StepV.zero with kind := 1, session := n, ask := a }
def askC0N : WS → Option StepV
  | [] => none
  | v :: ws => askC1N num v ws
def stepCN (w : List UInt8) (ws : WS) : Option StepV :=
  if w = [102, 108, 117, 115, 104] then only ws { StepV.zero with kind := 3 }
  else if w = [109, 97, 114, 107] then only ws { StepV.zero with kind := 4 }
  else if w = [111, 112, 101, 110] then only ws { StepV.zero with kind := 6 }
  else if w = [99, 114, 97, 115, 104] then crashN num ws
  else if w = [97, 114, 109] then armN num ws
  else if w = [114, 117, 110] then runN num ws
  else if w = [97, 115, 107] then askC0N num ws
  else none
def stepN : WS → Option StepV
  | [] => none
  | w :: ws => stepCN num w ws
end
theorem num1N_eq : num1N numL = num1 := by funext l; cases l <;> rfl
theorem partsN_eq : ∀ l, partsN numL l = partsW l
  | [] => rfl
  | [_] => rfl
  | w :: v :: ws => by
    unfold partsN partsW
    rw [partsN_eq ws]
    rfl
theorem takeN_eq : takeN numL = takeF := by
  funext x c
  unfold takeN takeF
  rw [num1N_eq, partsN_eq]
  rfl
theorem optN_eq : optN numL = optF := by
  funext s c
  unfold optN optF
  rw [takeN_eq]
  rfl
theorem askN_eq : askN numL = askW := by
  funext l
  match l with
  | [] => rfl
  | [_] => rfl
  | w :: v :: ws =>
    show askC2N numL w v ws = askC2 w v ws
    unfold askC2N askC2
    rw [optN_eq]
    rfl
theorem fatesN_eq : ∀ l, fatesN numL l = fatesW l
  | [] => rfl
  | w :: ws => by
    unfold fatesN fatesW
    rw [fatesN_eq ws]
    rfl
theorem stepN_eq : stepN numL = stepW := by
  funext l
  match l with
  | [] => rfl
  | w :: ws =>
    show stepCN numL w ws = stepC w ws
    have h1 : crashN numL ws = crashC ws := by unfold crashN crashC; rw [fatesN_eq]; rfl
    have h2 : armN numL ws = armC ws := by unfold armN armC; rw [num1N_eq]; rfl
    have h3 : runN numL ws = runC ws := by
      match ws with
      | [] => rfl
      | [v] => rfl
      | _ :: _ :: _ => rfl
    have h4 : askC0N numL ws = askC0 ws := by
      match ws with
      | [] => rfl
      | v :: ws =>
        show askC1N numL v ws = askC1 v ws
        unfold askC1N askC1
        rw [askN_eq]
        rfl
    unfold stepCN stepC
    rw [h1, h2, h3, h4]
theorem stepW_ref (l : WS) : stepW l = stepN refNum l := by
  rw [← stepN_eq]
  have : numL = refNum := by funext l; exact (refNum_eq l).symm
  rw [this]
theorem stepL_ref (l : List UInt8) : stepL l = stepN refNum (wordsL l) := stepW_ref _
end Go.Proofs.YtglojnmcbochaaaGreatDoor

namespace Go.Proofs.YtglojnmcbochaaaGreatDoor
open Go.RowKit Go.Maps
set_option linter.unusedVariables false
set_option linter.unusedSimpArgs false

theorem lineRes_of {l : List UInt8} {x : StepV} (hl : l.length ≤ 1048576) (h : stepN refNum (wordsL l) = some x) : lineRes l = (x, 0) := by
  unfold lineRes
  rw [if_neg (by omega), stepL_ref, h]
theorem lineRes_no {l : List UInt8} (hl : l.length ≤ 1048576) (h : stepN refNum (wordsL l) = none) : lineRes l = (StepV.zero, 310) := by
  unfold lineRes
  rw [if_neg (by omega), stepL_ref, h]
theorem itoa_one {n : Nat} (h : n < 10) : Lib.itoa n = [UInt8.ofNat (48 + n)] := by
  unfold Lib.itoa
  rw [if_neg (by omega), Lib.decDigits, dif_pos (by omega)]
  rfl
theorem itoa_two {n : Nat} (h : 10 ≤ n) (h2 : n < 100) : Lib.itoa n = [UInt8.ofNat (48 + n / 10), UInt8.ofNat (48 + n % 10)] := by
  unfold Lib.itoa
  rw [if_neg (by omega), Lib.decDigits, dif_neg (by omega), Lib.decDigits, dif_pos (by omega)]
  rfl
def aw31a : StepV := ⟨1, 1, 0, ⟨9, 7, [65], 5, 12, 0, 0, 0, 0, [], []⟩, []⟩
def aw31b : StepV := ⟨5, 0, 0, AskV.zero, [3, 70]⟩
def aw31t : TaleV := ⟨2, 9, 1, AskV.zero, ⟨0, 3, 12, [65], 1, [], []⟩⟩
theorem aw_line1 : lineRes [97, 115, 107, 32, 49, 32, 110, 101, 101, 100, 32, 55, 32, 65, 32, 53, 32, 49, 50, 32, 48] = (aw31a, 0) := lineRes_of (by decide) (by rfl)
theorem aw_line2 : lineRes [32, 99, 114, 97, 115, 104, 32, 32, 51, 32, 55, 48, 32] = (aw31b, 0) := lineRes_of (by decide) (by rfl)
theorem aw_line3 : lineRes [97, 115, 107, 32, 48, 32, 116, 105, 99, 107] = (StepV.zero, 310) := lineRes_no (by decide) (by rfl)
theorem aw_told : toldL aw31t = [57, 32, 116, 101, 108, 108, 115, 32, 49, 32, 111, 107, 32, 51, 32, 49, 50, 32, 65, 32, 49] := by
  have h9 := itoa_one (n := 9) (by decide)
  have h1 := itoa_one (n := 1) (by decide)
  have h3 := itoa_one (n := 3) (by decide)
  have h12 := itoa_two (n := 12) (by decide) (by decide)
  have e : toldW aw31t = [Lib.itoa (9 : Nat), [116, 101, 108, 108, 115], Lib.itoa (1 : Nat), [111, 107], Lib.itoa (3 : Nat), Lib.itoa (12 : Nat), [65], Lib.itoa (1 : Nat)] := by rfl
  unfold toldL
  rw [e, h9, h1, h3, h12]
  decide
theorem aw31t_ok : aw31t.Ok := ⟨(show isByte (2 : Int) by unfold isByte; decide), (show I64 (9 : Int) by unfold I64; decide), (show I64 (1 : Int) by unfold I64; decide), AskV.Ok.zero, ⟨(show I64 (0 : Int) by unfold I64; decide), (show I64 (3 : Int) by unfold I64; decide), (show I64 (12 : Int) by unfold I64; decide), (show strOk [65] by unfold strOk; decide), (show isByte (1 : Int) by unfold isByte; decide), by simp [aw31t], by simp [aw31t]⟩⟩
def TellS.nil : TellS := ⟨Sl.nil, Sl.nil⟩
theorem TellIs.nil (w : World) (t : TellV) (h1 : t.lots = []) (h2 : t.uses = []) : TellIs w t TellS.nil := ⟨by unfold SlL; rw [h1]; exact SlE.none_ w 6, by unfold SlU; rw [h2]; exact SlE.none_ w 3⟩
theorem askIs_nil (w : World) (a : AskV) (h1 : a.parts = []) (h2 : a.others = []) : AskIs w a AskS.nil := (AskOwn.nil w 0 a h1 h2).is
set_option maxRecDepth 100000 in
set_option maxHeartbeats 4000000 in
theorem awake31_any (w : World) (hv : VarsOk w) (hK : KindsOk w) (hV : VerbsOk w) : Calls Tryz.prog 8 #[] w (OkNew w) := by
  have H1 := is_any ⟨#[97, 115, 107, 32, 49, 32, 110, 101, 101, 100, 32, 55, 32, 65, 32, 53, 32, 49, 50, 32, 48]⟩ aw31a AskS.nil Sl.nil w hv hK hV (by decide) (StpIs.nil w _ rfl rfl rfl) aw_line1
  have H2 := Lib.hid (fun (w' : World) (t : Turned (fun _ => False) w w') (Fs : Sl) (h : SlF w' Fs [3, 70]) => is_any ⟨#[32, 99, 114, 97, 115, 104, 32, 32, 51, 32, 55, 48, 32]⟩ aw31b AskS.nil Fs w' (hv.turned t) (hK.fresh t) (hV.fresh t) (by decide) ⟨askIs_nil w' _ rfl rfl, h⟩ aw_line2)
  have H3 := Lib.hid (fun (w' : World) (t : Turned (fun _ => False) w w') => refused_any ⟨#[97, 115, 107, 32, 48, 32, 116, 105, 99, 107]⟩ w' (hv.turned t) (hK.fresh t) (hV.fresh t) (by decide) aw_line3)
  have H4 := Lib.hid (fun (w' : World) (t : Turned (fun _ => False) w w') => ltell_any aw31t AskS.nil TellS.nil w' (hv.turned t) (hK.fresh t) (hV.fresh t) (askIs_nil w' _ rfl rfl) (TellIs.nil w' _ rfl rfl) aw31t_ok (by decide))
  clear hv hK hV
  have H1 := Lib.hid H1
  unfold stpC aw31a AskS.nil Sl.nil strV at H1
  unfold stpC aw31b AskV.zero AskS.nil strV at H2
  unfold taleC aw31t AskV.zero AskS.nil TellS.nil Sl.nil strV at H4
  simp only at H1 H2 H4
  go_enter Tryz.func8, Tryz.ntmps8
  go_wp2_with fail
  refine H1.out.mono ?_
  rintro e w1 ⟨rfl, t1⟩
  have T1 := Lib.hid t1
  clear t1 H1
  go_wp2_with fail
  have t2 := (Turned.refl (fun _ => False) w1).alloc (.cells #[.int .i64 3, .int .i64 70] 53)
  have hF : SlF (w1.alloc (.cells #[.int .i64 3, .int .i64 70] 53)) ⟨some ⟨w1.heap.size, 0, none⟩, 2, 2⟩ [3, 70] := OwnE.slF (T := 53) (OwnE.of_row (RowE.new w1 53 1 2 #[.int .i64 3, .int .i64 70] rfl (by unfold maxLen; omega)))
  refine (H2.out _ (T1.out.and_ t2) _ hF).mono ?_
  rintro e w3 ⟨rfl, t3⟩
  have T3 := Lib.hid ((T1.out.and_ t2).and_ t3)
  clear t2 t3 T1 hF H2
  go_wp2_with fail
  refine (H3.out _ T3.out).mono ?_
  rintro e w4 ⟨rfl, t4⟩
  have T4 := Lib.hid (T3.out.and_ t4)
  clear t4 T3 H3
  go_wp2_with fail
  refine (H4.out _ T4.out).mono ?_
  rintro e w5 ⟨rfl, t5⟩
  have T5 := Lib.hid (T4.out.and_ t5)
  clear t5 T4 H4
  have hto := aw_told
  unfold aw31t AskV.zero at hto
  rw [hto]
  clear hto
  go_wp2_with fail
  go_ret
  exact ⟨rfl, T5.out⟩
/-- What layer 31's walks count on. -/
structure LnVars (w : World) : Prop where
  vars : VarsOk w
  kinds : KindsOk w
  verbs : VerbsOk w
theorem LnVars.fresh {w w' : World} (h : LnVars w) (ht : Turned (fun _ => False) w w') : LnVars w' := ⟨h.vars.turned ht, h.kinds.fresh ht, h.verbs.fresh ht⟩
end Go.Proofs.YtglojnmcbochaaaGreatDoor

namespace Go.Proofs.YtglojnmcbochaaaGreatDoor
open Go.RowKit Go.Maps
set_option linter.unusedVariables false
set_option linter.unusedSimpArgs false

def greatT (t : TaleV) : Bool := decide (1000 < t.ask.item.length + t.ask.parts.length + t.ask.others.length) || (decide (310 < t.tell.lots.length) || (decide (400 < t.tell.uses.length) || decide (1000 < t.tell.code.length)))
theorem TellV.Ok.zero : TellV.zero.Ok := ⟨I64_zero, I64_zero, I64_zero, (by unfold strOk; decide), (by unfold isByte; decide), (by simp [TellV.zero]), (by simp [TellV.zero])⟩
set_option maxRecDepth 100000 in
set_option maxHeartbeats 2000000 in
theorem great31_any (t : TaleV) (SA : AskS) (ST : TellS) (w : World) (hA : AskIs w t.ask SA) (hT : TellIs w t.tell ST) (hf : AskFew t.ask) (hf2 : TellFew t.tell) : Calls Tryz.prog 12 #[.agg (taleC t SA ST)] w (RetNew (.bool (greatT t)) w) := by
  have hg : greatT t = (decide (1000 < (⟨t.ask.item.toArray⟩ : ByteArray).size + SA.P.n + SA.O.n) || (decide (310 < ST.L.n) || (decide (400 < ST.U.n) || decide (1000 < (⟨t.tell.code.toArray⟩ : ByteArray).size)))) := by
    unfold greatT
    rw [hA.parts.len, hA.others.len, SlL.len hT.lots, SlU.len hT.uses]
    rfl
  obtain ⟨f1, f2, f3⟩ := hf
  obtain ⟨f4, f5, f6⟩ := hf2
  have h1 : (⟨t.ask.item.toArray⟩ : ByteArray).size ≤ 140737488355328 := f1
  have h2 : SA.P.n ≤ 140737488355328 := by rw [← hA.parts.len]; exact f2
  have h3 : SA.O.n ≤ 140737488355328 := by rw [← hA.others.len]; exact f3
  have h4 : (⟨t.tell.code.toArray⟩ : ByteArray).size ≤ 140737488355328 := f4
  have h5 : ST.L.n ≤ 140737488355328 := by rw [← SlL.len hT.lots]; exact f5
  have h6 : ST.U.n ≤ 140737488355328 := by rw [← SlU.len hT.uses]; exact f6
  have hg' := Lib.hid hg
  clear hA hT hg f1 f2 f3 f4 f5 f6
  obtain ⟨tk, at_, ses, ⟨yk, yr, yi, yq, yd, yl, ya, yt, yn, yp, yo⟩, ⟨er, id, ty, cd, st, lots, uses⟩⟩ := t
  obtain ⟨⟨MA, Mn, Mc⟩, ⟨NA, Nn, Nc⟩⟩ := SA
  obtain ⟨⟨LA, Ln, Lc⟩, ⟨UA, Un, Uc⟩⟩ := ST
  simp only at h1 h2 h3 h4 h5 h6 hg'
  unfold taleC strV
  simp only
  generalize (⟨yi.toArray⟩ : ByteArray) = str at *
  generalize (⟨cd.toArray⟩ : ByteArray) = str2 at *
  go_enter Tryz.func12, Tryz.ntmps12
  go_wp2
  all_goals
    go_ret
    refine ⟨ret_bool ?_, (Turned.refl _ w).alloc _⟩
    rw [hg'.out, Bool.eq_iff_iff]
    simp only [Bool.or_eq_true, decide_eq_true_eq, Bool.true_eq, Bool.false_eq_true]
    first
    | exact ⟨fun hh => by omega, fun hh => by omega⟩
    | exact ⟨fun _ => by omega, fun _ => trivial⟩
    | omega
end Go.Proofs.YtglojnmcbochaaaGreatDoor

