/-
  ytglojnmcbochaaagreatdoor: laws and walks on the road to LinesSteps, joined: AskA Shf. Conditions stand at each theorem.
-/
import Derived.Test.YtglojnmcbochaaaGreatDoorSAskQ
import Derived.Test.YtglojnmcbochaaaGreatDoorSElt
import Derived.Lib.SlicesS
import Derived.Shelf.Strings.Builder1
import Derived.Shelf.Strings.Builder2
import Derived.Shelf.Strings.OnBuilder
import Derived.Shelf.Strings.Trim
import Derived.Shelf.Small.Utf8
import Derived.Shelf.Small.Strs
import Derived.Shelf.Strings.BuilderF
import Derived.Shelf.Strconv.Itoa0
import Derived.Shelf.Strconv.Itoa1
import Derived.Shelf.LaysM
import Derived.Shelf.Strconv.Itoa2
import Derived.Shelf.Strconv.Itoa3
import Derived.Shelf.Strconv.Itoa4
import Derived.Shelf.Strconv.ParseIntEmpty
import Derived.Shelf.Strconv.Clone
import Derived.Shelf.Strconv.Lower
import Derived.Shelf.Strconv.ParseUint10
import Derived.Shelf.Strconv.ParseUint10Empty
import Derived.Shelf.Strconv.ParseUintEmpty
import Derived.Shelf.Strconv.ParseUint10b64
import Derived.Shelf.Strconv.ParseUint10b32
import Derived.Shelf.Strconv.ParseUint10b16
import Derived.Shelf.Strings.Search1
import Derived.Shelf.Strings.Search2
import Derived.Shelf.Strings.Search3
import Derived.Shelf.Strings.Shaped
import Derived.Shelf.Strings.Prefix
import Derived.Shelf.Strings.Fields
import Derived.Shelf.Unicode.Latin
import Derived.Shelf.Strings.Runes
import Derived.Shelf.Strings.AsciiSet
import Derived.Shelf.Bits.Mul64
import Derived.Shelf.Strings.Repeat
import Derived.Shelf.Unicode.DecodeSlow
import Derived.Shelf.Unicode.Is16White
import Derived.Shelf.Unicode.IsSpaceAny
import Derived.Shelf.Unicode.Is16Any
import Derived.Shelf.Unicode.Is32Any
import Derived.Shelf.Unicode.ExclAny
import Derived.Shelf.Slices.Turned
import Derived.Test.YtglojnmcbochaaaGreatDoorProg
namespace Go.Proofs.YtglojnmcbochaaaGreatDoor
open Go.RowKit Go.Maps
set_option linter.unusedVariables false

/-- A slice's three words. -/
structure Sl where
  A : Option Addr
  n : Nat
  c : Nat
def strV (l : List UInt8) : Value := .string ⟨l.toArray⟩
theorem strV_ba (s : ByteArray) : strV s.data.toList = .string s := rfl
/-- The cells of texts, and of parts. -/
def textC (l : List (List UInt8)) : List Value := l.map strV
def partC (l : List (List UInt8 × Int)) : List Value := l.flatMap fun p => [strV p.1, .int .i64 p.2]
def itemAt (l : List (List UInt8 × Int)) (i : Nat) : List UInt8 := (l.getD i ([], 0)).1
def qtyAt (l : List (List UInt8 × Int)) (i : Nat) : Int := (l.getD i ([], 0)).2
theorem textC_length (l : List (List UInt8)) : (textC l).length = l.length := by simp [textC]
theorem textC_append (a b : List (List UInt8)) : textC (a ++ b) = textC a ++ textC b := by simp [textC]
theorem textC_get (l : List (List UInt8)) (i : Nat) (h : i < l.length) : (textC l)[i]? = some (strV (l.getD i [])) := by
  simp [textC, List.getD_eq_getElem?_getD, h]
theorem textC_one (l : List (List UInt8)) : ∀ v ∈ textC l, v.oneCell' = true := by
  intro v hv
  obtain ⟨p, _, rfl⟩ := List.mem_map.1 hv
  rfl
theorem partC_length (l : List (List UInt8 × Int)) : (partC l).length = l.length * 2 := by
  induction l with
  | nil => rfl
  | cons p l ih =>
    show ([strV p.1, Value.int .i64 p.2] ++ partC l).length = _
    rw [List.length_append, ih, List.length_cons]
    simp
    omega
theorem partC_cons (p : List UInt8 × Int) (l : List (List UInt8 × Int)) : partC (p :: l) = strV p.1 :: .int .i64 p.2 :: partC l := rfl
theorem partC_append (a b : List (List UInt8 × Int)) : partC (a ++ b) = partC a ++ partC b := by simp [partC]
theorem partC_fst (l : List (List UInt8 × Int)) (i : Nat) (h : i < l.length) : (partC l)[i * 2]? = some (strV (itemAt l i)) := by
  induction l generalizing i with
  | nil => simp at h
  | cons p l ih =>
    cases i with
    | zero => rfl
    | succ i =>
      rw [partC_cons, show (i + 1) * 2 = i * 2 + 1 + 1 by omega, List.getElem?_cons_succ, List.getElem?_cons_succ, ih i (by simpa using h)]
      rfl
theorem partC_snd (l : List (List UInt8 × Int)) (i : Nat) (h : i < l.length) : (partC l)[i * 2 + 1]? = some (.int .i64 (qtyAt l i)) := by
  induction l generalizing i with
  | nil => simp at h
  | cons p l ih =>
    cases i with
    | zero => rfl
    | succ i =>
      rw [partC_cons, show (i + 1) * 2 + 1 = i * 2 + 1 + 1 + 1 by omega, List.getElem?_cons_succ, List.getElem?_cons_succ, ih i (by simpa using h)]
      rfl
/-- A slice of texts. -/
structure SlT (w : World) (s : Sl) (l : List (List UInt8)) : Prop where
  cel : CelR w s.A s.n (textC l)
  len : l.length = s.n
  nil_ : s.A = none → s.n = 0 ∧ s.c = 0
  le : s.n ≤ s.c
  max : s.c ≤ maxLen
/-- A slice of parts. -/
structure SlQ (w : World) (s : Sl) (l : List (List UInt8 × Int)) : Prop where
  cel : CelR w s.A (s.n * 2) (partC l)
  len : l.length = s.n
  nil_ : s.A = none → s.n = 0 ∧ s.c = 0
  le : s.n ≤ s.c
  max : s.c ≤ maxLen
structure AskS where
  P : Sl
  O : Sl
/-- What a command's slices hold. -/
structure AskIs (w : World) (a : AskV) (S : AskS) : Prop where
  parts : SlQ w S.P a.parts
  others : SlT w S.O a.others
/-- A command's cells. -/
def askC (a : AskV) (S : AskS) : Array Value :=
  #[.int .u8 a.kind, .int .i64 a.request, strV a.item, .int .i64 a.qty, .int .i64 a.day, .int .i64 a.days, .int .i64 a.rank, .int .i64 a.lot, .int .i64 a.line, .slice S.P.A S.P.n S.P.c, .slice S.O.A S.O.n S.O.c]
def strOk (l : List UInt8) : Prop := l.length ≤ 9223372036854775807
/-- The numbers are of their types, the texts are no longer than texts may be. -/
structure AskV.Ok (a : AskV) : Prop where
  kind : isByte a.kind
  request : I64 a.request
  item : strOk a.item
  qty : I64 a.qty
  day : I64 a.day
  days : I64 a.days
  rank : I64 a.rank
  lot : I64 a.lot
  line : I64 a.line
  parts : ∀ p ∈ a.parts, strOk p.1 ∧ I64 p.2
  others : ∀ s ∈ a.others, strOk s
section
variable {w w' : World}
theorem SlT.fresh {s : Sl} {l : List (List UInt8)} (h : SlT w s l) (ht : Turned (fun _ => False) w w') : SlT w' s l := ⟨h.cel.fresh ht, h.len, h.nil_, h.le, h.max⟩
theorem SlQ.fresh {s : Sl} {l : List (List UInt8 × Int)} (h : SlQ w s l) (ht : Turned (fun _ => False) w w') : SlQ w' s l := ⟨h.cel.fresh ht, h.len, h.nil_, h.le, h.max⟩
theorem AskIs.fresh {a : AskV} {S : AskS} (h : AskIs w a S) (ht : Turned (fun _ => False) w w') : AskIs w' a S := ⟨h.parts.fresh ht, h.others.fresh ht⟩
theorem SlT.turned {W : Nat → Prop} {s : Sl} {l : List (List UInt8)} (h : SlT w s l) (ht : Turned W w w') (hW : ∀ b o, s.A = some ⟨b, o, none⟩ → ¬ W b) : SlT w' s l := ⟨h.cel.turned ht hW, h.len, h.nil_, h.le, h.max⟩
theorem SlQ.turned {W : Nat → Prop} {s : Sl} {l : List (List UInt8 × Int)} (h : SlQ w s l) (ht : Turned W w w') (hW : ∀ b o, s.A = some ⟨b, o, none⟩ → ¬ W b) : SlQ w' s l := ⟨h.cel.turned ht hW, h.len, h.nil_, h.le, h.max⟩
theorem SlT.cells {s : Sl} {l : List (List UInt8)} (h : SlT w s l) (hn : 0 < s.n) : ∃ b off, s.A = some ⟨b, off, none⟩ ∧ ∀ i, i < s.n → w.cell? ⟨b, off + i, none⟩ = some (strV (l.getD i [])) := by
  obtain ⟨b, off, e, hc⟩ := h.cel.cell hn
  refine ⟨b, off, e, fun i hi => ?_⟩
  rw [hc i hi, textC_get l i (by rw [h.len]; exact hi)]
theorem SlQ.cells {s : Sl} {l : List (List UInt8 × Int)} (h : SlQ w s l) (hn : 0 < s.n) : ∃ b off, s.A = some ⟨b, off, none⟩ ∧ ∀ i, i < s.n → w.cell? ⟨b, off + i * 2, none⟩ = some (strV (itemAt l i)) ∧ w.cell? ⟨b, off + i * 2 + 1, none⟩ = some (.int .i64 (qtyAt l i)) := by
  obtain ⟨b, off, e, hc⟩ := h.cel.cell (by omega)
  refine ⟨b, off, e, fun i hi => ⟨?_, ?_⟩⟩
  · rw [hc (i * 2) (by omega), partC_fst l i (by rw [h.len]; exact hi)]
  · rw [Nat.add_assoc, hc (i * 2 + 1) (by omega), partC_snd l i (by rw [h.len]; exact hi)]
end
/-! slices.Contains at texts -/
def baOf (l : List UInt8) : ByteArray := ⟨l.toArray⟩
theorem baOf_inj {a b : List UInt8} : baOf a = baOf b ↔ a = b := by
  unfold baOf
  constructor
  · intro h
    injection h with h
    simpa using congrArg Array.toList h
  · rintro rfl; rfl
theorem getD_baOf (l : List (List UInt8)) (i : Nat) : (l.map baOf).getD i ByteArray.empty = baOf (l.getD i []) := by
  rw [List.getD_eq_getElem?_getD, List.getD_eq_getElem?_getD, List.getElem?_map]
  cases l[i]? <;> rfl
theorem containsS_map (l : List (List UInt8)) (x : List UInt8) (k : Nat) : Lib.containsS ((l.map baOf).take k) (baOf x) = (l.take k).contains x := by
  rw [Bool.eq_iff_iff, Lib.containsS_iff, ← List.map_take, List.contains_iff_mem, List.mem_map]
  constructor
  · rintro ⟨y, hy, e⟩
    rw [baOf_inj] at e
    exact e ▸ hy
  · exact fun h => ⟨x, h, rfl⟩
/-! unlike, step by step -/
def unlikeTo (l : List (List UInt8)) (j : Nat) : Bool := (List.range j).all fun i => codeL (l.getD i []) && !(l.take i).contains (l.getD i [])
theorem unlikeTo_succ (l : List (List UInt8)) (j : Nat) : unlikeTo l (j + 1) = (unlikeTo l j && (codeL (l.getD j []) && !(l.take j).contains (l.getD j []))) := by
  unfold unlikeTo
  rw [List.range_succ, List.all_append]
  simp
theorem unlikeTo_mono {l : List (List UInt8)} {j k : Nat} (h : unlikeTo l k = true) (hj : j ≤ k) : unlikeTo l j = true := by
  unfold unlikeTo at *
  rw [List.all_eq_true] at *
  intro i hi
  exact h i (List.mem_range.2 (by have := List.mem_range.1 hi; omega))
theorem unlike_no {l : List (List UInt8)} {j : Nat} (hj : j < l.length) (h : (codeL (l.getD j []) && !(l.take j).contains (l.getD j [])) = false) : unlikeB l = false := by
  cases hu : unlikeB l with
  | false => rfl
  | true =>
    have h1 := unlikeTo_mono (l := l) (k := l.length) hu (show j + 1 ≤ l.length by omega)
    rw [unlikeTo_succ, h] at h1
    simp at h1
end Go.Proofs.YtglojnmcbochaaaGreatDoor

namespace Go.Proofs
open Go.Shelf
def Tryz.lays156_ren : Go.Shelf.Ren := ⟨fun | 156 => 21 | 165 => 55 | 166 => 56 | 169 => 57 | 240 => 92 | 241 => 93 | 276 => 125 | 277 => 126 | n => n, fun | 31 => 26 | 9 => 9 | 3 => 3 | 4 => 4 | 0 => 0 | 20 => 20 | 72 => 108 | 76 => 112 | 70 => 105 | 37 => 106 | 75 => 111 | 127 => 155 | 164 => 188 | 5 => 5 | 80 => 114 | n => n, fun | n => n⟩
theorem Tryz.lays156 : Go.Proofs.Lays.n156 Tryz.prog Tryz.lays156_ren := {
  mixed := by kernel_rfl
  f156 := Tryz.func21.trans (congrArg some (by kernel_rfl))
  f165 := Tryz.func55.trans (congrArg some (by kernel_rfl))
  f166 := Tryz.func56.trans (congrArg some (by kernel_rfl))
  f169 := Tryz.func57.trans (congrArg some (by kernel_rfl))
  f240 := Tryz.func92.trans (congrArg some (by kernel_rfl))
  f241 := Tryz.func93.trans (congrArg some (by kernel_rfl))
  f276 := Tryz.func125.trans (congrArg some (by kernel_rfl))
  f277 := Tryz.func126.trans (congrArg some (by kernel_rfl))
  t0 := Tryz.underlying0
  a0 := Tryz.isAgg0
  z0 := Tryz.sizeOf0
  v0 := Tryz.zeroValue0
  t3 := Tryz.underlying3
  a3 := Tryz.isAgg3
  z3 := Tryz.sizeOf3
  v3 := Tryz.zeroValue3
  t4 := Tryz.underlying4
  a4 := Tryz.isAgg4
  z4 := Tryz.sizeOf4
  v4 := Tryz.zeroValue4
  t9 := Tryz.underlying9
  a9 := Tryz.isAgg9
  z9 := Tryz.sizeOf9
  v9 := Tryz.zeroValue9
  t20 := Tryz.underlying20
  a20 := Tryz.isAgg20
  z20 := Tryz.sizeOf20
  v20 := Tryz.zeroValue20
  t31 := Tryz.underlying26
  a31 := Tryz.isAgg26
  z31 := Tryz.sizeOf26
  v31 := Tryz.zeroValue26
  t37 := Tryz.underlying106
  a37 := Tryz.isAgg106
  z37 := Tryz.sizeOf106
  v37 := Tryz.zeroValue106
  t70 := Tryz.underlying105
  a70 := Tryz.isAgg105
  z70 := Tryz.sizeOf105
  v70 := Tryz.zeroValue105
  t72 := Tryz.underlying108
  a72 := Tryz.isAgg108
  z72 := Tryz.sizeOf108
  v72 := Tryz.zeroValue108
  t75 := Tryz.underlying111
  a75 := Tryz.isAgg111
  z75 := Tryz.sizeOf111
  v75 := Tryz.zeroValue111
  t76 := Tryz.underlying112
  a76 := Tryz.isAgg112
  z76 := Tryz.sizeOf112
  v76 := Tryz.zeroValue112
  t127 := Tryz.underlying155
  a127 := Tryz.isAgg155
  z127 := Tryz.sizeOf155
  v127 := Tryz.zeroValue155
  t164 := Tryz.underlying188
  a164 := Tryz.isAgg188
  z164 := Tryz.sizeOf188
  v164 := Tryz.zeroValue188 }
def Tryz.lays160_ren : Go.Shelf.Ren := ⟨fun | 160 => 88 | 232 => 116 | 231 => 115 | 227 => 117 | 234 => 119 | 233 => 118 | 236 => 121 | 235 => 120 | 228 => 136 | 271 => 138 | 151 => 137 | 197 => 128 | 120 => 152 | 152 => 151 | 260 => 143 | 137 => 162 | 119 => 163 | 224 => 141 | 225 => 140 | 217 => 139 | 266 => 153 | n => n, fun | 9 => 9 | 4 => 4 | 3 => 3 | 5 => 5 | 117 => 173 | 116 => 172 | 0 => 0 | 124 => 176 | 21 => 21 | 105 => 191 | 46 => 115 | 119 => 102 | 139 => 217 | 138 => 216 | n => n, fun | 3 => 6 | 4 => 7 | n => n⟩
theorem Tryz.lays160 : Go.Proofs.Lays.n160 Tryz.prog Tryz.lays160_ren := {
  mixed := by kernel_rfl
  f119 := Tryz.func163.trans (congrArg some (by kernel_rfl))
  f120 := Tryz.func152.trans (congrArg some (by kernel_rfl))
  f137 := Tryz.func162.trans (congrArg some (by kernel_rfl))
  f151 := Tryz.func137.trans (congrArg some (by kernel_rfl))
  f152 := Tryz.func151.trans (congrArg some (by kernel_rfl))
  f160 := Tryz.func88.trans (congrArg some (by kernel_rfl))
  f197 := Tryz.func128.trans (congrArg some (by kernel_rfl))
  f217 := Tryz.func139.trans (congrArg some (by kernel_rfl))
  f224 := Tryz.func141.trans (congrArg some (by kernel_rfl))
  f225 := Tryz.func140.trans (congrArg some (by kernel_rfl))
  f227 := Tryz.func117.trans (congrArg some (by kernel_rfl))
  f228 := Tryz.func136.trans (congrArg some (by kernel_rfl))
  f231 := Tryz.func115.trans (congrArg some (by kernel_rfl))
  f232 := Tryz.func116.trans (congrArg some (by kernel_rfl))
  f233 := Tryz.func118.trans (congrArg some (by kernel_rfl))
  f234 := Tryz.func119.trans (congrArg some (by kernel_rfl))
  f235 := Tryz.func120.trans (congrArg some (by kernel_rfl))
  f236 := Tryz.func121.trans (congrArg some (by kernel_rfl))
  f260 := Tryz.func143.trans (congrArg some (by kernel_rfl))
  f266 := Tryz.func153.trans (congrArg some (by kernel_rfl))
  f271 := Tryz.func138.trans (congrArg some (by kernel_rfl))
  t0 := Tryz.underlying0
  a0 := Tryz.isAgg0
  z0 := Tryz.sizeOf0
  v0 := Tryz.zeroValue0
  t3 := Tryz.underlying3
  a3 := Tryz.isAgg3
  z3 := Tryz.sizeOf3
  v3 := Tryz.zeroValue3
  t4 := Tryz.underlying4
  a4 := Tryz.isAgg4
  z4 := Tryz.sizeOf4
  v4 := Tryz.zeroValue4
  t5 := Tryz.underlying5
  a5 := Tryz.isAgg5
  z5 := Tryz.sizeOf5
  v5 := Tryz.zeroValue5
  t9 := Tryz.underlying9
  a9 := Tryz.isAgg9
  z9 := Tryz.sizeOf9
  v9 := Tryz.zeroValue9
  t21 := Tryz.underlying21
  a21 := Tryz.isAgg21
  z21 := Tryz.sizeOf21
  v21 := Tryz.zeroValue21
  t46 := Tryz.underlying115
  a46 := Tryz.isAgg115
  z46 := Tryz.sizeOf115
  v46 := Tryz.zeroValue115
  t105 := Tryz.underlying191
  a105 := Tryz.isAgg191
  z105 := Tryz.sizeOf191
  v105 := Tryz.zeroValue191
  t116 := Tryz.underlying172
  a116 := Tryz.isAgg172
  z116 := Tryz.sizeOf172
  t117 := Tryz.underlying173
  a117 := Tryz.isAgg173
  z117 := Tryz.sizeOf173
  v117 := Tryz.zeroValue173
  t119 := Tryz.underlying102
  a119 := Tryz.isAgg102
  z119 := Tryz.sizeOf102
  t124 := Tryz.underlying176
  a124 := Tryz.isAgg176
  z124 := Tryz.sizeOf176
  v124 := Tryz.zeroValue176
  t138 := Tryz.underlying216
  a138 := Tryz.isAgg216
  z138 := Tryz.sizeOf216
  v138 := Tryz.zeroValue216
  t139 := Tryz.underlying217
  a139 := Tryz.isAgg217
  z139 := Tryz.sizeOf217
  v139 := Tryz.zeroValue217
  g3 := by kernel_rfl
  g4 := by kernel_rfl }
def Tryz.lays143_ren : Go.Shelf.Ren := ⟨fun | 143 => 90 | 219 => 122 | 217 => 139 | 225 => 140 | 224 => 141 | 267 => 142 | 266 => 153 | 314 => 154 | n => n, fun | 9 => 9 | 3 => 3 | 4 => 4 | 5 => 5 | 46 => 115 | 146 => 156 | 51 => 152 | n => n, fun | 1 => 4 | n => n⟩
theorem Tryz.lays143 : Go.Proofs.Lays.n143 Tryz.prog Tryz.lays143_ren := {
  mixed := by kernel_rfl
  f143 := Tryz.func90.trans (congrArg some (by kernel_rfl))
  f217 := Tryz.func139.trans (congrArg some (by kernel_rfl))
  f219 := Tryz.func122.trans (congrArg some (by kernel_rfl))
  f224 := Tryz.func141.trans (congrArg some (by kernel_rfl))
  f225 := Tryz.func140.trans (congrArg some (by kernel_rfl))
  f266 := Tryz.func153.trans (congrArg some (by kernel_rfl))
  f267 := Tryz.func142.trans (congrArg some (by kernel_rfl))
  f314 := Tryz.func154.trans (congrArg some (by kernel_rfl))
  t3 := Tryz.underlying3
  a3 := Tryz.isAgg3
  z3 := Tryz.sizeOf3
  v3 := Tryz.zeroValue3
  t4 := Tryz.underlying4
  a4 := Tryz.isAgg4
  z4 := Tryz.sizeOf4
  v4 := Tryz.zeroValue4
  t5 := Tryz.underlying5
  a5 := Tryz.isAgg5
  z5 := Tryz.sizeOf5
  v5 := Tryz.zeroValue5
  t9 := Tryz.underlying9
  a9 := Tryz.isAgg9
  z9 := Tryz.sizeOf9
  v9 := Tryz.zeroValue9
  t46 := Tryz.underlying115
  a46 := Tryz.isAgg115
  z46 := Tryz.sizeOf115
  v46 := Tryz.zeroValue115
  t51 := Tryz.underlying152
  a51 := Tryz.isAgg152
  z51 := Tryz.sizeOf152
  v51 := Tryz.zeroValue152
  t146 := Tryz.underlying156
  a146 := Tryz.isAgg156
  z146 := Tryz.sizeOf156
  v146 := Tryz.zeroValue156
  g1 := by kernel_rfl }
def Tryz.lays144_ren : Go.Shelf.Ren := ⟨fun | 144 => 51 | 143 => 90 | 219 => 122 | 217 => 139 | 225 => 140 | 224 => 141 | 267 => 142 | 266 => 153 | 314 => 154 | n => n, fun | 9 => 9 | 4 => 4 | 3 => 3 | 5 => 5 | 46 => 115 | 146 => 156 | 51 => 152 | n => n, fun | 1 => 4 | n => n⟩
theorem Tryz.lays144 : Go.Proofs.Lays.n144 Tryz.prog Tryz.lays144_ren := {
  mixed := by kernel_rfl
  f143 := Tryz.func90.trans (congrArg some (by kernel_rfl))
  f144 := Tryz.func51.trans (congrArg some (by kernel_rfl))
  f217 := Tryz.func139.trans (congrArg some (by kernel_rfl))
  f219 := Tryz.func122.trans (congrArg some (by kernel_rfl))
  f224 := Tryz.func141.trans (congrArg some (by kernel_rfl))
  f225 := Tryz.func140.trans (congrArg some (by kernel_rfl))
  f266 := Tryz.func153.trans (congrArg some (by kernel_rfl))
  f267 := Tryz.func142.trans (congrArg some (by kernel_rfl))
  f314 := Tryz.func154.trans (congrArg some (by kernel_rfl))
  t3 := Tryz.underlying3
  a3 := Tryz.isAgg3
  z3 := Tryz.sizeOf3
  v3 := Tryz.zeroValue3
  t4 := Tryz.underlying4
  a4 := Tryz.isAgg4
  z4 := Tryz.sizeOf4
  v4 := Tryz.zeroValue4
  t5 := Tryz.underlying5
  a5 := Tryz.isAgg5
  z5 := Tryz.sizeOf5
  v5 := Tryz.zeroValue5
  t9 := Tryz.underlying9
  a9 := Tryz.isAgg9
  z9 := Tryz.sizeOf9
  v9 := Tryz.zeroValue9
  t46 := Tryz.underlying115
  a46 := Tryz.isAgg115
  z46 := Tryz.sizeOf115
  v46 := Tryz.zeroValue115
  t51 := Tryz.underlying152
  a51 := Tryz.isAgg152
  z51 := Tryz.sizeOf152
  v51 := Tryz.zeroValue152
  t146 := Tryz.underlying156
  a146 := Tryz.isAgg156
  z146 := Tryz.sizeOf156
  v146 := Tryz.zeroValue156
  g1 := by kernel_rfl }
def Tryz.lays105_ren : Go.Shelf.Ren := ⟨fun | 105 => 23 | 212 => 58 | 99 => 59 | 165 => 55 | 166 => 56 | 170 => 60 | 169 => 57 | 263 => 94 | 264 => 95 | 206 => 96 | 240 => 92 | 241 => 93 | 276 => 125 | 277 => 126 | n => n, fun | 9 => 9 | 3 => 3 | 4 => 4 | 20 => 20 | 0 => 0 | 46 => 115 | 109 => 116 | 5 => 5 | 72 => 108 | 76 => 112 | 51 => 152 | 146 => 156 | 53 => 139 | 148 => 158 | 70 => 105 | 37 => 106 | 75 => 111 | 127 => 155 | 164 => 188 | 80 => 114 | n => n, fun | n => n⟩
theorem Tryz.lays105 : Go.Proofs.Lays.n105 Tryz.prog Tryz.lays105_ren := {
  mixed := by kernel_rfl
  f99 := Tryz.func59.trans (congrArg some (by kernel_rfl))
  f105 := Tryz.func23.trans (congrArg some (by kernel_rfl))
  f165 := Tryz.func55.trans (congrArg some (by kernel_rfl))
  f166 := Tryz.func56.trans (congrArg some (by kernel_rfl))
  f169 := Tryz.func57.trans (congrArg some (by kernel_rfl))
  f170 := Tryz.func60.trans (congrArg some (by kernel_rfl))
  f206 := Tryz.func96.trans (congrArg some (by kernel_rfl))
  f212 := Tryz.func58.trans (congrArg some (by kernel_rfl))
  f240 := Tryz.func92.trans (congrArg some (by kernel_rfl))
  f241 := Tryz.func93.trans (congrArg some (by kernel_rfl))
  f263 := Tryz.func94.trans (congrArg some (by kernel_rfl))
  f264 := Tryz.func95.trans (congrArg some (by kernel_rfl))
  f276 := Tryz.func125.trans (congrArg some (by kernel_rfl))
  f277 := Tryz.func126.trans (congrArg some (by kernel_rfl))
  t0 := Tryz.underlying0
  a0 := Tryz.isAgg0
  z0 := Tryz.sizeOf0
  v0 := Tryz.zeroValue0
  t3 := Tryz.underlying3
  a3 := Tryz.isAgg3
  z3 := Tryz.sizeOf3
  v3 := Tryz.zeroValue3
  t4 := Tryz.underlying4
  a4 := Tryz.isAgg4
  z4 := Tryz.sizeOf4
  v4 := Tryz.zeroValue4
  t5 := Tryz.underlying5
  a5 := Tryz.isAgg5
  z5 := Tryz.sizeOf5
  v5 := Tryz.zeroValue5
  t9 := Tryz.underlying9
  a9 := Tryz.isAgg9
  z9 := Tryz.sizeOf9
  v9 := Tryz.zeroValue9
  t20 := Tryz.underlying20
  a20 := Tryz.isAgg20
  z20 := Tryz.sizeOf20
  v20 := Tryz.zeroValue20
  t37 := Tryz.underlying106
  a37 := Tryz.isAgg106
  z37 := Tryz.sizeOf106
  v37 := Tryz.zeroValue106
  t46 := Tryz.underlying115
  a46 := Tryz.isAgg115
  z46 := Tryz.sizeOf115
  v46 := Tryz.zeroValue115
  t51 := Tryz.underlying152
  a51 := Tryz.isAgg152
  z51 := Tryz.sizeOf152
  v51 := Tryz.zeroValue152
  t53 := Tryz.underlying139
  a53 := Tryz.isAgg139
  z53 := Tryz.sizeOf139
  v53 := Tryz.zeroValue139
  t70 := Tryz.underlying105
  a70 := Tryz.isAgg105
  z70 := Tryz.sizeOf105
  v70 := Tryz.zeroValue105
  t72 := Tryz.underlying108
  a72 := Tryz.isAgg108
  z72 := Tryz.sizeOf108
  v72 := Tryz.zeroValue108
  t75 := Tryz.underlying111
  a75 := Tryz.isAgg111
  z75 := Tryz.sizeOf111
  v75 := Tryz.zeroValue111
  t76 := Tryz.underlying112
  a76 := Tryz.isAgg112
  z76 := Tryz.sizeOf112
  v76 := Tryz.zeroValue112
  t109 := Tryz.underlying116
  a109 := Tryz.isAgg116
  z109 := Tryz.sizeOf116
  v109 := Tryz.zeroValue116
  t127 := Tryz.underlying155
  a127 := Tryz.isAgg155
  z127 := Tryz.sizeOf155
  v127 := Tryz.zeroValue155
  t146 := Tryz.underlying156
  a146 := Tryz.isAgg156
  z146 := Tryz.sizeOf156
  v146 := Tryz.zeroValue156
  t148 := Tryz.underlying158
  a148 := Tryz.isAgg158
  z148 := Tryz.sizeOf158
  v148 := Tryz.zeroValue158
  t164 := Tryz.underlying188
  a164 := Tryz.isAgg188
  z164 := Tryz.sizeOf188
  v164 := Tryz.zeroValue188 }
def Tryz.lays110_ren : Go.Shelf.Ren := ⟨fun | 110 => 50 | 109 => 89 | n => n, fun | 31 => 26 | 9 => 9 | 4 => 4 | 3 => 3 | 0 => 0 | n => n, fun | n => n⟩
theorem Tryz.lays110 : Go.Proofs.Lays.n110 Tryz.prog Tryz.lays110_ren := {
  mixed := by kernel_rfl
  f109 := Tryz.func89.trans (congrArg some (by kernel_rfl))
  f110 := Tryz.func50.trans (congrArg some (by kernel_rfl))
  t0 := Tryz.underlying0
  a0 := Tryz.isAgg0
  z0 := Tryz.sizeOf0
  v0 := Tryz.zeroValue0
  t3 := Tryz.underlying3
  a3 := Tryz.isAgg3
  z3 := Tryz.sizeOf3
  v3 := Tryz.zeroValue3
  t4 := Tryz.underlying4
  a4 := Tryz.isAgg4
  z4 := Tryz.sizeOf4
  v4 := Tryz.zeroValue4
  t9 := Tryz.underlying9
  a9 := Tryz.isAgg9
  z9 := Tryz.sizeOf9
  v9 := Tryz.zeroValue9
  t31 := Tryz.underlying26
  a31 := Tryz.isAgg26
  z31 := Tryz.sizeOf26
  v31 := Tryz.zeroValue26 }
end Go.Proofs

