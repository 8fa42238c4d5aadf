/-
 ytglojnmcbochaaagreatdoor: laws and walks on the road to LinesNumbers, joined: CodE WrdP LnsP. Conditions stand at each theorem.
-/
import Derived.Test.YtglojnmcbochaaaGreatDoorUCodQ
import Derived.Test.YtglojnmcbochaaaGreatDoorUShelf
import Derived.Lib.AppendIntMem
import Derived.Lib.ParseIntBTie
import Derived.Lib.Join
import Derived.Test.YtglojnmcbochaaaGreatDoorUAskQ
import Derived.Test.YtglojnmcbochaaaGreatDoorUCodN
namespace Go.Proofs.YtglojnmcbochaaaGreatDoor
open Go.RowKit Go.Maps
set_option linter.unusedVariables false

theorem var_turned {P : Program} {w w' : World} {n : String} {g : Nat} {cs : Array Value} (h : w.var? P n = some cs) (hg : P.globalNamed n = some g) (ht : Turned (fun _ => False) w w') : w'.var? P n = some cs := by
 unfold World.var? at h ⊢
 rw [hg] at h ⊢
 simp only [Option.bind_some] at h ⊢
 have hlt : g < w.heap.size := by
  rcases Nat.lt_or_ge g w.heap.size with h1 | h1
  ·exact h1
  ·rw [Array.getElem?_eq_none h1] at h; cases h
 rw [ht.block g hlt (fun e => e)]
 exact h
structure VarsOk (w : World) : Prop where
 syn : ∃ tp p, w.var? Tryz.prog "strconv.ErrSyntax" = some #[.iface tp p]
 rng : ∃ tp p, w.var? Tryz.prog "strconv.ErrRange" = some #[.iface tp p]
 tab : Lib.TabIs Tryz.prog w "internal/strconv.uint64pow10" .u64 Lib.pow10Tab
theorem VarsOk.turned {w w' : World} (h : VarsOk w) (ht : Turned (fun _ => False) w w') : VarsOk w' := by
 obtain ⟨⟨t1, p1, h1⟩, ⟨t2, p2, h2⟩, h3⟩ := h
 exact ⟨⟨t1, p1, var_turned h1 (g := 8) (by kernel_rfl) ht⟩, ⟨t2, p2, var_turned h2 (g := 9) (by kernel_rfl) ht⟩, var_turned (g := 5) h3 (by kernel_rfl) ht⟩
theorem turned_grow (w : World) (k : Nat) (os : Array Obj) : Turned (fun _ => False) w (Sort.grow (w.drewN k) os) := Turned.of_below (Lib.below_grow w.heap.size w (Nat.le_refl _) k os) _
def StrNew (l : List UInt8) (w : World) (e : Ending) (w' : World) : Prop := e = .returned (.string ⟨l.toArray⟩) ∧ Turned (fun _ => False) w w'
theorem text_any (n : Int) (w : World) (hv : VarsOk w) (h : int64 n) : Calls Tryz.prog 76 #[.int .i64 n] w (StrNew (Lib.itoa n) w) := by
 have hc := hZ (Any.strconv_FormatInt_10 Tryz.laysM173 n h.1 h.2 w hv.tab)
 go_enter Tryz.func76, Tryz.ntmps76
 go_wp2_with fail
 refine hc.out.mono ?_
 rintro e w1 ⟨rfl, k, os, rfl⟩
 have ht := hZ (turned_grow w k os)
 generalize Sort.grow (w.drewN k) os = w1 at ht
 go_wp2_with fail
 go_ret
 exact ⟨rfl, ht.out⟩
def NumPost (o : Option Int) (w : World) (e : Ending) (w' : World) : Prop := e = .returned (.tuple #[.int .i64 (o.getD 0), .bool o.isSome]) ∧ Turned (fun _ => False) w w'
theorem str_eq_iff (s t : ByteArray) : (s.toList == t.toList) = decide (s.data.toList = t.data.toList) := by
 rw [ByteArray.toList_eq, ByteArray.toList_eq]
 by_cases h : s.data.toList = t.data.toList
 ·rw [h]; simp
 ·rw [decide_eq_false h]; exact beq_eq_false_iff_ne.2 h
set_option maxRecDepth 100000 in
theorem number_any (s : ByteArray) (w : World) (hv : VarsOk w) (hs : s.size ≤ 281474976710656) : Calls Tryz.prog 99 #[.string s] w (NumPost (numL s.data.toList) w) := by
 have hp : Lib.parseIntB 64 s.data.toList = Lib.atoiAll s.data.toList := Lib.parseIntB_64 _
 rcases hat : Lib.atoiAll s.data.toList with v | _ | _
 ·have hb := Lib.atoiAll_bounds hat
  have e : numL s.data.toList = if Lib.itoa v = s.data.toList then some v else none := by unfold numL; rw [hat]
  have hc := hZ (Any.strconv_ParseInt_10_at64_ok Tryz.laysC174 s (by omega) v (hp.trans hat) w)
  have hse := str_eq_iff ⟨(Lib.itoa v).toArray⟩ s
  have hsd : (⟨(Lib.itoa v).toArray⟩ : ByteArray).data.toList = Lib.itoa v := by simp
  rw [hsd] at hse
  have htx := hZ (fun w hv => text_any v w hv hb)
  have e' := hZ e
  clear e hat hp hsd
  by_cases heq : Lib.itoa v = s.data.toList
  ·rw [decide_eq_true heq] at hse
   have heq' := hZ heq
   have hse' := hZ hse
   clear heq hse
   go_enter Tryz.func99, Tryz.ntmps99
   go_wp2_with fail
   refine hc.out.mono ?_
   rintro e w1 ⟨rfl, hw1⟩
   have ht1 : Turned (fun _ => False) w w1 := by
    rcases hw1 with rfl | ⟨t, rfl⟩
    ·exact Turned.refl _ _
    ·exact turned_bytes w t
   have ht1' := hZ ht1
   clear hw1 ht1
   go_wp2_with fail
   refine (htx.out _ (hv.turned ht1'.out)).mono ?_
   rintro e w2 ⟨rfl, ht2⟩
   have ht2' := hZ ht2
   clear ht2
   have hse := hse'.out
   generalize (⟨(Lib.itoa v).toArray⟩ : ByteArray) = str at hse
   go_wp2_with fail
   go_ret2
   rw [e'.out, if_pos heq'.out]
   exact ⟨rfl, ht1'.out.and_ ht2'.out⟩
  ·rw [decide_eq_false heq] at hse
   have heq' := hZ heq
   have hse' := hZ hse
   clear heq hse
   go_enter Tryz.func99, Tryz.ntmps99
   go_wp2_with fail
   refine hc.out.mono ?_
   rintro e w1 ⟨rfl, hw1⟩
   have ht1 : Turned (fun _ => False) w w1 := by
    rcases hw1 with rfl | ⟨t, rfl⟩
    ·exact Turned.refl _ _
    ·exact turned_bytes w t
   have ht1' := hZ ht1
   clear hw1 ht1
   go_wp2_with fail
   refine (htx.out _ (hv.turned ht1'.out)).mono ?_
   rintro e w2 ⟨rfl, ht2⟩
   have ht2' := hZ ht2
   clear ht2
   have hse := hse'.out
   generalize (⟨(Lib.itoa v).toArray⟩ : ByteArray) = str at hse
   go_wp2_with fail
   go_ret2
   rw [e'.out, if_neg heq'.out]
   exact ⟨rfl, ht1'.out.and_ ht2'.out⟩
 ·have e : numL s.data.toList = none := by unfold numL; rw [hat]
  obtain ⟨tp, p, h1⟩ := hv.syn
  have hc := hZ (Any.strconv_ParseInt_10_at64_syntax_var Tryz.laysC174 s hs (hp.trans hat) tp p w h1)
  have e' := hZ e
  clear e h1 hat hp
  go_enter Tryz.func99, Tryz.ntmps99
  go_wp2_with fail
  refine hc.out.mono ?_
  rintro e w1 ⟨N, rfl, _, _, hb⟩
  have ht := hZ (Turned.of_below hb (fun _ => False))
  clear hb
  go_wp2_with fail
  go_ret2
  rw [e'.out]
  exact ⟨rfl, ht.out⟩
 ·have e : numL s.data.toList = none := by unfold numL; rw [hat]
  obtain ⟨tp, p, h1⟩ := hv.rng
  have hc := hZ (Any.strconv_ParseInt_10_at64_range_var Tryz.laysC174 s hs (hp.trans hat) tp p w h1)
  have e' := hZ e
  clear e h1 hat hp
  go_enter Tryz.func99, Tryz.ntmps99
  go_wp2_with fail
  refine hc.out.mono ?_
  rintro e w1 ⟨N, rfl, _, _, hb⟩
  have ht := hZ (Turned.of_below hb (fun _ => False))
  clear hb
  go_wp2_with fail
  go_ret2
  rw [e'.out]
  exact ⟨rfl, ht.out⟩
end Go.Proofs.YtglojnmcbochaaaGreatDoor

namespace Go.Proofs.YtglojnmcbochaaaGreatDoor
set_option linter.unusedVariables false
set_option linter.unusedSimpArgs false

def pieces : List UInt8 → List (List UInt8)
 | [] => [[]]
 | c :: l => if c = 32 then [] :: pieces l else match pieces l with
  | [] => [[c]]
  | p :: ps => (c :: p) :: ps
def wordsL (l : List UInt8) : List (List UInt8) := (pieces l).filter fun p => !p.isEmpty

def putC (c : UInt8) : List (List UInt8) → List (List UInt8)
 | [] => [[c]]
 | p :: ps => (c :: p) :: ps
theorem pieces_blank (l : List UInt8) : pieces (32 :: l) = [] :: pieces l := by
 conv => lhs; unfold pieces
 rw [if_pos rfl]
theorem pieces_other {c : UInt8} (l : List UInt8) (h : c ≠ 32) : pieces (c :: l) = putC c (pieces l) := by
 conv => lhs; unfold pieces
 rw [if_neg h]
 rfl
theorem pieces_ne (l : List UInt8) : pieces l ≠ [] := by
 cases l with
 | nil => simp [pieces]
 | cons c l =>
  unfold pieces
  split
  ·simp
  ·split <;> simp
theorem pieces_none {l : List UInt8} (h : ∀ c ∈ l, c ≠ 32) : pieces l = [l] := by
 induction l with
 | nil => rfl
 | cons c l ih =>
  unfold pieces
  rw [if_neg (h c (by simp)), ih (fun d hd => h d (by simp [hd]))]
theorem pieces_at {a : List UInt8} (b : List UInt8) (h : ∀ c ∈ a, c ≠ 32) : pieces (a ++ 32 :: b) = a :: pieces b := by
 induction a with
 | nil => simp [pieces]
 | cons c a ih =>
  rw [zG, pieces_other _ (h c (by simp)), ih (fun d hd => h d (by simp [hd]))]
  rfl
theorem pieces_app (a b : List UInt8) : pieces (a ++ 32 :: b) = pieces a ++ pieces b := by
 induction a with
 | nil => simp [pieces]
 | cons c a ih =>
  rw [zG]
  by_cases hc : c = 32
  ·subst hc
   rw [pieces_blank, pieces_blank, ih, zG]
  ·rw [pieces_other _ hc, pieces_other _ hc, ih]
   cases hp : pieces a with
   | nil => exact absurd hp (pieces_ne a)
   | cons p ps => rfl
theorem words_nil : wordsL [] = [] := rfl
theorem words_app (a b : List UInt8) : wordsL (a ++ 32 :: b) = wordsL a ++ wordsL b := by
 unfold wordsL
 rw [pieces_app, List.filter_append]
theorem words_blank (b : List UInt8) : wordsL (32 :: b) = wordsL b := by
 have := words_app [] b
 simpa [words_nil] using this
theorem words_word {p : List UInt8} (h : ∀ c ∈ p, c ≠ 32) (h0 : p ≠ []) : wordsL p = [p] := by
 unfold wordsL
 rw [pieces_none h]
 cases p with
 | nil => exact absurd rfl h0
 | cons c p => rfl
theorem words_cons {p : List UInt8} (b : List UInt8) (h : ∀ c ∈ p, c ≠ 32) (h0 : p ≠ []) : wordsL (p ++ 32 :: b) = p :: wordsL b := by
 rw [words_app, words_word h h0]
 rfl
theorem pieces_sum (l : List UInt8) : ((pieces l).map fun p => p.length + 1).sum = l.length + 1 := by
 induction l with
 | nil => rfl
 | cons c l ih =>
  by_cases hc : c = 32
  ·subst hc
   rw [pieces_blank, zF, List.sum_cons, ih]
   simp
   omega
  ·rw [pieces_other _ hc]
   cases hp : pieces l with
   | nil => exact absurd hp (pieces_ne l)
   | cons p ps =>
    rw [hp] at ih
    simp only [putC, zF, List.sum_cons, List.length_cons] at ih ⊢
    omega
theorem full_sum (ps : List (List UInt8)) : 2 * (ps.filter fun p => !p.isEmpty).length ≤ (ps.map fun p => p.length + 1).sum := by
 induction ps with
 | nil => simp
 | cons p ps ih =>
  rw [List.filter_cons, zF, List.sum_cons]
  split
  ·rename_i h
   cases p with
   | nil => cases h
   | cons c p =>
    simp only [List.length_cons]
    omega
  ·omega
theorem words_few (l : List UInt8) : 2 * (wordsL l).length ≤ l.length + 1 := by
 have := full_sum (pieces l)
 rw [pieces_sum] at this
 exact this
theorem pieces_mem {l p : List UInt8} (h : p ∈ pieces l) : p.length ≤ l.length ∧ ∀ c ∈ p, c ∈ l ∧ c ≠ 32 := by
 induction l generalizing p with
 | nil =>
  unfold pieces at h
  rw [List.mem_singleton] at h
  subst h
  simp
 | cons c l ih =>
  unfold pieces at h
  split at h
  ·rcases List.mem_cons.1 h with rfl | h
   ·simp
   ·obtain ⟨h1, h2⟩ := ih h
    exact ⟨by simp; omega, fun d hd => ⟨by simp [(h2 d hd).1], (h2 d hd).2⟩⟩
  ·rename_i hc
   split at h
   ·rw [List.mem_singleton] at h
    subst h
    exact ⟨by simp, fun d hd => by
     rw [List.mem_singleton] at hd
     subst hd
     exact ⟨by simp, hc⟩⟩
   ·rename_i q qs e
    rcases List.mem_cons.1 h with rfl | h
    ·obtain ⟨h1, h2⟩ := ih (p := q) (by rw [e]; simp)
     refine ⟨by simp; omega, fun d hd => ?_⟩
     rcases List.mem_cons.1 hd with rfl | hd
     ·exact ⟨by simp, hc⟩
     ·exact ⟨by simp [(h2 d hd).1], (h2 d hd).2⟩
    ·obtain ⟨h1, h2⟩ := ih (p := p) (by rw [e]; simp [h])
     exact ⟨by simp; omega, fun d hd => ⟨by simp [(h2 d hd).1], (h2 d hd).2⟩⟩
theorem words_mem {l p : List UInt8} (h : p ∈ wordsL l) : p ≠ [] ∧ p.length ≤ l.length ∧ ∀ c ∈ p, c ∈ l ∧ c ≠ 32 := by
 unfold wordsL at h
 obtain ⟨h1, h2⟩ := List.mem_filter.1 h
 refine ⟨?_, pieces_mem h1⟩
 rintro rfl
 simp at h2
theorem join32 (p : List UInt8) (l : List (List UInt8)) : Go.Lib.join (p :: l) [32] = p ++ l.flatMap fun q => 32 :: q := by
 rw [Go.Lib.join_cons]
 unfold Go.Lib.joinTail
 rw [List.flatMap_def]
 rfl
end Go.Proofs.YtglojnmcbochaaaGreatDoor

namespace Go.Proofs.YtglojnmcbochaaaGreatDoor
open Go.Lib
set_option linter.unusedVariables false
set_option linter.unusedSimpArgs false

abbrev WS := List (List UInt8)
def verbT : WS := [[], [105, 116, 101, 109], [107, 105, 116], [111, 116, 104, 101, 114, 115], [114, 101, 99, 101, 105, 118, 101], [111, 114, 100, 101, 114], [100, 117, 101], [100, 114, 111, 112], [97, 114, 114, 105, 118, 101], [110, 101, 101, 100], [99, 97, 110, 99, 101, 108], [115, 104, 105, 112], [116, 105, 99, 107], [119, 104, 101, 110], [108, 105, 110, 101], [115, 116, 111, 99, 107]]
def verbF : List (List Nat) := [[], [105, 108], [105, 112], [105, 111], [105, 113], [105, 113, 100], [116, 100], [116], [116], [105, 113, 100, 114], [110], [110], [], [105, 113, 100], [110], [105]]
def kindW (w : List UInt8) : Int :=
 if w = [105, 116, 101, 109] then 1 else if w = [107, 105, 116] then 2 else if w = [111, 116, 104, 101, 114, 115] then 3 else if w = [114, 101, 99, 101, 105, 118, 101] then 4 else if w = [111, 114, 100, 101, 114] then 5 else if w = [100, 117, 101] then 6 else if w = [100, 114, 111, 112] then 7 else if w = [97, 114, 114, 105, 118, 101] then 8 else if w = [110, 101, 101, 100] then 9 else if w = [99, 97, 110, 99, 101, 108] then 10 else if w = [115, 104, 105, 112] then 11 else if w = [116, 105, 99, 107] then 12 else if w = [119, 104, 101, 110] then 13 else if w = [108, 105, 110, 101] then 14 else if w = [115, 116, 111, 99, 107] then 15 else 0
def num1C (w : List UInt8) (ws : WS) : Option (Int × WS) := match numL w with
 | none => none
 | some n => some (n, ws)
def num1 : WS → Option (Int × WS)
 | [] => none
 | w :: ws => num1C w ws
def partsW : WS → Option (List (List UInt8 × Int))
 | [] => some []
 | [_] => none
 | w :: v :: ws => match numL v with
  | none => none
  | some n => match partsW ws with
   | none => none
   | some l => some ((w, n) :: l)
def takeF (x : AskV × WS) (c : Nat) : Option (AskV × WS) :=
 if c = 105 then (match x.2 with
  | [] => none
  | w :: ws => some ({ x.1 with item := w }, ws))
 else if c = 113 then (num1 x.2).map fun r => ({ x.1 with qty := r.1 }, r.2)
 else if c = 100 then (num1 x.2).map fun r => ({ x.1 with day := r.1 }, r.2)
 else if c = 108 then (num1 x.2).map fun r => ({ x.1 with days := r.1 }, r.2)
 else if c = 114 then (num1 x.2).map fun r => ({ x.1 with rank := r.1 }, r.2)
 else if c = 116 then (num1 x.2).map fun r => ({ x.1 with lot := r.1 }, r.2)
 else if c = 110 then (num1 x.2).map fun r => ({ x.1 with line := r.1 }, r.2)
 else if c = 112 then (partsW x.2).map fun l => ({ x.1 with parts := x.1.parts ++ l }, [])
 else if c = 111 then some ({ x.1 with others := x.1.others ++ x.2 }, [])
 else some x
def optF (s : Option (AskV × WS)) (c : Nat) : Option (AskV × WS) := match s with
 | none => none
 | some x => takeF x c
def askE : Option (AskV × WS) → Option AskV
 | some (a, []) => if rightA a then some a else none
 | _ => none
def askC2 (w v : List UInt8) (ws : WS) : Option AskV := match fieldsK (kindW w) with
 | none => none
 | some f => match numL v with
  | none => none
  | some r => askE (f.foldl optF (some ({ AskV.zero with kind := kindW w, request := r }, ws)))
def askW : WS → Option AskV
 | w :: v :: ws => askC2 w v ws
 | _ => none
structure StepV where
 kind : Int
 session : Int
 num : Int
 ask : AskV
 fates : List Int
def StepV.zero : StepV := ⟨0, 0, 0, AskV.zero, []⟩
def sessO : Option Int → Option Int
 | none => none
 | some n => if 0 ≤ n ∧ n < 4 then some n else none
def sessW (w : List UInt8) : Option Int := sessO (numL w)
def fatesW : WS → Option (List Int)
 | [] => some []
 | w :: ws => match numL w with
  | none => none
  | some n => match fatesW ws with
   | none => none
   | some l => some (n :: l)
def only (ws : WS) (x : StepV) : Option StepV := match ws with
 | [] => some x
 | _ => none
def crashC (ws : WS) : Option StepV := match fatesW ws with
 | none => none
 | some l => some { StepV.zero with kind := 5, fates := l }
def armC (ws : WS) : Option StepV := match num1 ws with
 | some (n, []) => some { StepV.zero with kind := 7, num := n }
 | _ => none
def runC : WS → Option StepV
 | [v] => match sessW v with
  | none => none
  | some n => some { StepV.zero with kind := 2, session := n }
 | _ => none
def askC1 (v : List UInt8) (ws : WS) : Option StepV := match sessW v with
 | none => none
 | some n => match askW ws with
  | none => none
  | some a => some { StepV.zero with kind := 1, session := n, ask := a }
def askC0 : WS → Option StepV
 | [] => none
 | v :: ws => askC1 v ws
def stepC (w : List UInt8) (ws : WS) : Option StepV :=
 if w = [102, 108, 117, 115, 104] then only ws { StepV.zero with kind := 3 }
 else if w = [109, 97, 114, 107] then only ws { StepV.zero with kind := 4 }
 else if w = [111, 112, 101, 110] then only ws { StepV.zero with kind := 6 }
 else if w = [99, 114, 97, 115, 104] then crashC ws
 else if w = [97, 114, 109] then armC ws
 else if w = [114, 117, 110] then runC ws
 else if w = [97, 115, 107] then askC0 ws
 else none
def stepW : WS → Option StepV
 | [] => none
 | w :: ws => stepC w ws
def stepL (l : List UInt8) : Option StepV := stepW (wordsL l)

/-! Told. -/
structure LotV where
 id : Int
 item : List UInt8
 frm : Int
 til : Int
 qty : Int
 here : Bool
structure UseV where
 want : Int
 lot : Int
 qty : Int
structure TellV where
 err : Int
 id : Int
 day : Int
 code : List UInt8
 state : Int
 lots : List LotV
 uses : List UseV
structure TaleV where
 kind : Int
 at_ : Int
 session : Int
 ask : AskV
 tell : TellV
def TellV.zero : TellV := ⟨0, 0, 0, [], 0, [], []⟩
def lotB (l : LotV) : Bool := decide (0 < l.id) && (codeL l.item && (decide (0 ≤ l.frm) && (decide (l.frm < l.til) && (decide (l.til ≤ 4001) && withinB l.qty 1 1073741824))))
def useB (u : UseV) : Bool := decide (0 ≤ u.want) && (decide (0 < u.lot) && decide (0 < u.qty))
def bareT (t : TellV) : Bool := decide (t.id = 0) && (decide (t.day = 0) && (decide (t.code = []) && (decide (t.state = 0) && (decide (t.lots = []) && decide (t.uses = [])))))
def rightT (t : TellV) : Bool :=
 if t.err < 0 ∨ 999 < t.err then false else if t.err ≠ 0 then bareT t
 else withinB t.id 0 9223372036854775807 && (withinB t.day (-1) 4000 && ((decide (t.code = []) || codeL t.code) && (decide (t.state ≤ 3) && (decide (t.lots.length ≤ 300) && (decide (t.uses.length ≤ 2000) && (t.lots.all lotB && t.uses.all useB))))))
def fieldW (a : AskV) (c : Nat) : WS :=
 if c = 105 then [a.item] else if c = 113 then [itoa a.qty] else if c = 100 then [itoa a.day] else if c = 108 then [itoa a.days] else if c = 114 then [itoa a.rank] else if c = 116 then [itoa a.lot]
 else if c = 110 then [itoa a.line] else if c = 112 then a.parts.flatMap (fun p => [p.1, itoa p.2]) else if c = 111 then a.others else []
def wordOf (k : Int) : List UInt8 := verbT.getD k.toNat []
def asksW (a : AskV) : WS := if rightA a then wordOf a.kind :: itoa a.request :: ((fieldsK a.kind).getD []).flatMap (fieldW a) else [[110, 111, 110, 101]]
def lotW (l : LotV) : WS := [[108, 111, 116], itoa l.id, l.item, itoa l.frm, itoa l.til, itoa l.qty, itoa (if l.here then 1 else 0)]
def useW (u : UseV) : WS := [[117, 115, 101], itoa u.want, itoa u.lot, itoa u.qty]
def tellsW (t : TellV) : WS :=
 if rightT t then (if t.err ≠ 0 then [[101, 114, 114, 111, 114], itoa t.err]
  else [111, 107] :: itoa t.id :: itoa t.day :: (if t.code = [] then [45] else t.code) :: itoa t.state :: (t.lots.flatMap lotW ++ t.uses.flatMap useW))
 else [[110, 111, 110, 101]]
def toldW (t : TaleV) : WS :=
 itoa t.at_ :: (if t.kind = 1 then [97, 115, 107, 115] :: itoa t.session :: asksW t.ask else if t.kind = 2 then [116, 101, 108, 108, 115] :: itoa t.session :: tellsW t.tell else if t.kind = 3 then [[100, 111, 119, 110]] else if t.kind = 4 then [[111, 112, 101, 110]] else [[110, 111, 110, 101]])
def each32 (ws : WS) : List UInt8 := ws.flatMap fun p => 32 :: p
def toldL (t : TaleV) : List UInt8 := Go.Lib.join (toldW t) [32]
theorem each32_cons (p : List UInt8) (ws : WS) : each32 (p :: ws) = 32 :: p ++ each32 ws := by unfold each32; rw [List.flatMap_cons]
theorem each32_append (a b : WS) : each32 (a ++ b) = each32 a ++ each32 b := by unfold each32; rw [List.flatMap_append]
theorem told_eq (t : TaleV) : ∃ ws, toldW t = itoa t.at_ :: ws ∧ toldL t = itoa t.at_ ++ each32 ws := by
 unfold toldL toldW
 exact ⟨_, rfl, join32 _ _⟩

/-! What is told is read. -/
def wordB (p : List UInt8) : Prop := p ≠ [] ∧ ∀ c ∈ p, 33 ≤ c.toNat ∧ c.toNat ≤ 126
theorem wordB.ne {p : List UInt8} (h : wordB p) : p ≠ [] ∧ ∀ c ∈ p, c ≠ 32 := ⟨h.1, fun c hc e => by have := (h.2 c hc).1; subst e; revert this; decide⟩
theorem kindW_of {k : Int} {f : List Nat} (h : fieldsK k = some f) : kindW (wordOf k) = k ∧ wordB (wordOf k) ∧ verbF.getD k.toNat [] = f := by
 obtain ⟨h1, h2⟩ := fieldsK_range h
 rcases (show k = 1 ∨ k = 2 ∨ k = 3 ∨ k = 4 ∨ k = 5 ∨ k = 6 ∨ k = 7 ∨ k = 8 ∨ k = 9 ∨ k = 10 ∨ k = 11 ∨ k = 12 ∨ k = 13 ∨ k = 14 ∨ k = 15 by omega) with rfl | rfl | rfl | rfl | rfl | rfl | rfl | rfl | rfl | rfl | rfl | rfl | rfl | rfl | rfl
 all_goals
  unfold fieldsK at h
  simp only [Int.reduceEq, if_true, if_false] at h
  injection h with h
  subst h
  refine ⟨by decide, ⟨by decide, by decide⟩, by decide⟩
theorem kinds_last {f : List Nat} (h : f ∈ kindsL) : ∀ u v c, f = u ++ c :: v → c = 112 ∨ c = 111 → v = [] := by
 have hd : ∀ i < f.length, f.getD i 0 = 112 ∨ f.getD i 0 = 111 → i + 1 = f.length := by
  unfold kindsL at h
  simp only [List.mem_cons, List.not_mem_nil, or_false] at h
  rcases h with rfl | rfl | rfl | rfl | rfl | rfl | rfl | rfl | rfl | rfl | rfl <;> decide
 intro u v c e hc
 have := hd u.length (by rw [e, List.length_append, List.length_cons]; omega) (by
  rw [e, List.getD_eq_getElem?_getD, List.getElem?_append_right (Nat.le_refl _), Nat.sub_self]
  exact hc)
 rw [e, List.length_append, List.length_cons] at this
 exact List.length_eq_zero_iff.1 (by omega)
theorem right_ok {a : AskV} (h : rightA a = true) : ∃ f, fieldsK a.kind = some f ∧ (∀ c ∈ f, okF a c = true ∧ c ∈ letters) ∧ f.foldl (setF a) { AskV.zero with kind := a.kind, request := a.request } = a := by
 obtain ⟨f, hf, _, _, h3⟩ := rightA_some h
 obtain ⟨_, _, k3⟩ := fieldsK_some hf
 refine ⟨f, hf, fun c hc => ?_, set_all hf h3⟩
 have := h3 c (k3 c hc)
 unfold fitF at this
 rw [if_pos (by simpa using hc)] at this
 exact ⟨this, k3 c hc⟩
/-! Blanks. -/
end Go.Proofs.YtglojnmcbochaaaGreatDoor

