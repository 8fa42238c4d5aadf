/-
 ytglojnmcbochaaagreatdoor: laws and walks on the road to LinesNumbers, joined: RdA Shf. Conditions stand at each theorem.
-/
import Derived.Test.YtglojnmcbochaaaGreatDoorUShelf
import Derived.Test.YtglojnmcbochaaaGreatDoorULnsP
import Derived.Test.YtglojnmcbochaaaGreatDoorURdP
import Derived.Shelf.Strings.Builder1
import Derived.Shelf.Strings.Builder2
import Derived.Shelf.Strings.OnBuilder
import Derived.Shelf.Strings.Trim
import Derived.Shelf.Small.Utf8
import Derived.Shelf.Small.Strs
import Derived.Shelf.Strings.BuilderF
import Derived.Shelf.Strconv.Itoa0
import Derived.Shelf.Strconv.Itoa1
import Derived.Shelf.LaysM
import Derived.Shelf.Strconv.Itoa2
import Derived.Shelf.Strconv.Itoa3
import Derived.Shelf.Strconv.Itoa4
import Derived.Shelf.Strconv.ParseIntEmpty
import Derived.Shelf.Strconv.Clone
import Derived.Shelf.Strconv.Lower
import Derived.Shelf.Strconv.ParseUint10
import Derived.Shelf.Strconv.ParseUint10Empty
import Derived.Shelf.Strconv.ParseUintEmpty
import Derived.Shelf.Strconv.ParseUint10b64
import Derived.Shelf.Strconv.ParseUint10b32
import Derived.Shelf.Strconv.ParseUint10b16
import Derived.Shelf.Strings.Search1
import Derived.Shelf.Strings.Search2
import Derived.Shelf.Strings.Search3
import Derived.Shelf.Strings.Shaped
import Derived.Shelf.Strings.Prefix
import Derived.Shelf.Strings.Fields
import Derived.Shelf.Unicode.Latin
import Derived.Shelf.Strings.Runes
import Derived.Shelf.Strings.AsciiSet
import Derived.Shelf.Bits.Mul64
import Derived.Shelf.Strings.Repeat
import Derived.Shelf.Unicode.DecodeSlow
import Derived.Shelf.Unicode.Is16White
import Derived.Shelf.Unicode.IsSpaceAny
import Derived.Shelf.Unicode.Is16Any
import Derived.Shelf.Unicode.Is32Any
import Derived.Shelf.Unicode.ExclAny
import Derived.Shelf.Slices.Turned
import Derived.Test.YtglojnmcbochaaaGreatDoorProg
namespace Go.Proofs.YtglojnmcbochaaaGreatDoor
open Go.RowKit Go.Maps
set_option linter.unusedVariables false
set_option linter.unusedSimpArgs false

def lenOk (l : List UInt8) : Prop := l.length ≤ 2000000
def RdB (w : World) (B g : Nat) (ws : WS) (bad : Bool) : Prop :=
 ∃ s : Sl, Blk w g 69 #[.slice s.A s.n s.c, .bool bad] ∧ SlT w s ws ∧ (∀ x ∈ ws, lenOk x) ∧ (∀ b o, s.A = some ⟨b, o, none⟩ → b ≠ g ∧ b < B) ∧ g < B
theorem SlT.tail {w : World} {b off n c : Nat} {x : List UInt8} {ws : WS} (h : SlT w ⟨some ⟨b, off, none⟩, n, c⟩ (x :: ws)) : SlT w ⟨some ⟨b, off + 1, none⟩, n - 1, c - 1⟩ ws := by
 have hl := h.len
 have hle := h.le
 have hm := h.max
 simp only [List.length_cons] at hl hle hm
 refine ⟨⟨by rw [textC_length]; simp only; omega, fun h0 => ?_⟩, by simp only; omega, (fun e => by cases e), by simp only; omega, by simp only; omega⟩
 obtain ⟨b2, off2, e, hc⟩ := h.cel.cell (by simp only; omega)
 simp only at e
 injection e with e
 injection e with e1 e2
 subst e1 e2
 refine ⟨b, off + 1, rfl, fun j hj => ?_⟩
 have := hc (1 + j) (by simp only at hj ⊢; omega)
 rw [← Nat.add_assoc] at this
 rw [this, Nat.add_comm 1 j]
 rfl
theorem SlT.set_ {w : World} {s : Sl} {ws : WS} {g : Nat} (h : SlT w s ws) (hg : ∀ b o, s.A = some ⟨b, o, none⟩ → b ≠ g) (i : Nat) (v : Value) : SlT (w.setCell ⟨g, i, none⟩ v) s ws :=
 h.turned ((Turned.refl (· = g) w).setCell (.inl rfl) v) fun b o e => hg b o e
theorem turned_one (w : World) (g i : Nat) (v : Value) : Turned (· = g) w (w.setCell ⟨g, i, none⟩ v) := (Turned.refl (· = g) w).setCell (p := ⟨g, i, none⟩) (.inl rfl) v
def wordPost (B g : Nat) (ws : WS) (bad : Bool) (w : World) (e : Ending) (w' : World) : Prop :=
 e = .returned (.string ⟨(ws.headD []).toArray⟩) ∧ RdB w' B g ws.tail (bad || ws.isEmpty) ∧ Turned (· = g) w w'
set_option maxHeartbeats 1000000 in
theorem word_any (B g : Nat) (ws : WS) (bad : Bool) (w : World) (h : RdB w B g ws bad) : Calls Tryz.prog 63 #[.pointer (some ⟨g, 0, none⟩)] w (wordPost B g ws bad w) := by
 obtain ⟨⟨A, n, c⟩, h1, h2, h3, h4', h5⟩ := h
 simp only at h1 h4'
 have h4 : ∀ b o, A = some ⟨b, o, none⟩ → b ≠ g := fun b o e => (h4' b o e).1
 have h6 : ∀ b o, A = some ⟨b, o, none⟩ → b < B := fun b o e => (h4' b o e).2
 clear h4'
 have k0 : w.cell? ⟨g, 0, none⟩ = some (.slice A n c) := h1.cell 0
 have k3 : w.cell? ⟨g, 1, none⟩ = some (.bool bad) := h1.cell 1
 have k1 := h1.frozen 0
 have k2 := h1.frozen 1
 cases ws with
 | nil =>
  obtain rfl : n = 0 := h2.len.symm
  go_enter Tryz.func63, Tryz.ntmps63
  go_wp2
  go_ret
  refine ⟨rfl, ⟨⟨A, 0, c⟩, ?_, h2.set_ h4 1 _, h3, fun b o e => ⟨h4 b o e, h6 b o e⟩, h5⟩, turned_one w g 1 _⟩
  have := h1.set_ 1 (.bool true)
  simpa using this
 | cons x ws =>
  have hn : 0 < n := by have := h2.len; simp only [List.length_cons] at this; omega
  obtain ⟨b, off, hA, hc⟩ := h2.cells hn
  simp only at hA hc
  subst hA
  have hc0 := hc 0 hn
  simp only [Nat.add_zero, List.getD_cons_zero] at hc0
  have hb := h4 b off rfl
  have hbB := h6 b off rfl
  clear h6
  have hle := h2.le
  have hmx := h2.max
  unfold maxLen at hmx
  simp only at hle hmx
  go_enter Tryz.func63, Tryz.ntmps63
  go_wp2
  ·go_ret
   have hz : c = 1 := by assumption
   have hn1 : n - 1 = 0 := by omega
   have hw0 : ws.length = 0 := by
    have := h2.len
    simp only [List.length_cons] at this
    omega
   obtain rfl := List.length_eq_zero_iff.1 hw0
   refine ⟨rfl, ⟨⟨some ⟨b, off, none⟩, n - 1, 0⟩, ?_, ⟨⟨by simp only; rw [hn1]; rfl, fun h0 => by simp only at h0; omega⟩, by simp only; rw [hn1]; rfl, (fun e => by cases e), by simp only; omega, Nat.zero_le _⟩, fun y hy => (by cases hy), fun b2 o2 e => by injection e with e; injection e with e; subst e; exact ⟨hb, hbB⟩, h5⟩, turned_one w g 0 _⟩
   have := h1.set_ 0 (.slice (some ⟨b, off, none⟩) (n - 1) 0)
   simpa using this
  ·go_ret
   refine ⟨rfl, ⟨⟨some ⟨b, off + 1, none⟩, n - 1, c - 1⟩, ?_, (h2.tail).set_ (fun b2 o2 e => by injection e with e; injection e with e; subst e; exact hb) 0 _, fun y hy => h3 y (by simp only [List.tail_cons] at hy; simp [hy]), fun b2 o2 e => by injection e with e; injection e with e; subst e; exact ⟨hb, hbB⟩, h5⟩, turned_one w g 0 _⟩
   have := h1.set_ 0 (.slice (some ⟨b, off + 1, none⟩) (n - 1) (c - 1))
   simpa using this
theorem RdB.fresh {w w' : World} {B g : Nat} {ws : WS} {bad : Bool} (h : RdB w B g ws bad) (ht : Turned (fun _ => False) w w') : RdB w' B g ws bad := by
 obtain ⟨s, h1, h2, h3, h4, h5⟩ := h
 exact ⟨s, h1.turned ht (fun e => e), h2.fresh ht, h3, h4, h5⟩
theorem RdB.turned {W : Nat → Prop} {w w' : World} {B g : Nat} {ws : WS} {bad : Bool} (h : RdB w B g ws bad) (ht : Turned W w w') (hW : ∀ i, W i → B ≤ i) : RdB w' B g ws bad := by
 obtain ⟨s, h1, h2, h3, h4, h5⟩ := h
 exact ⟨s, h1.turned ht (fun e => by have := hW _ e; omega), h2.turned ht (fun b o e k => by have := hW _ k; have := (h4 b o e).2; omega), h3, h4, h5⟩
theorem RdB.gB {w : World} {B g : Nat} {ws : WS} {bad : Bool} (h : RdB w B g ws bad) : g < B := by
 obtain ⟨s, h1, h2, h3, h4, h5⟩ := h
 exact h5
theorem RdB.mem {w : World} {B g : Nat} {ws : WS} {bad : Bool} (h : RdB w B g ws bad) : ∀ x ∈ ws, lenOk x := by
 obtain ⟨s, h1, h2, h3, h4, h5⟩ := h
 exact h3
theorem RdB.bad_ {w : World} {B g : Nat} {ws : WS} {bad : Bool} (h : RdB w B g ws bad) (b : Bool) : RdB (w.setCell ⟨g, 1, none⟩ (.bool b)) B g ws b := by
 obtain ⟨s, h1, h2, h3, h4, h5⟩ := h
 refine ⟨s, ?_, h2.set_ (fun b o e => (h4 b o e).1) 1 _, h3, h4, h5⟩
 have := h1.set_ 1 (.bool b)
 simpa using this
theorem RdB.cells {w : World} {B g : Nat} {ws : WS} {bad : Bool} (h : RdB w B g ws bad) : w.cell? ⟨g, 1, none⟩ = some (.bool bad) ∧ w.frozen? ⟨g, 1, none⟩ = false := by
 obtain ⟨s, h1, _⟩ := h
 exact ⟨h1.cell 1, h1.frozen 1⟩
theorem RdB.head {w : World} {B g : Nat} {ws : WS} {bad : Bool} (h : RdB w B g ws bad) : lenOk (ws.headD []) := by
 obtain ⟨s, _, _, h3, _⟩ := h
 cases ws with
 | nil => unfold lenOk; simp
 | cons x ws => exact h3 x (by simp)
structure Base (w0 w : World) (g : Nat) : Prop where
 vars : VarsOk w0
 t : Turned (fun _ => False) w0 w
 g : w0.heap.size ≤ g
theorem Base.next {w0 w w' : World} {g : Nat} (h : Base w0 w g) (ht : Turned (· = g) w w') : Base w0 w' g := ⟨h.vars, h.t.trans ht (fun _ e => e) (fun i e => .inr (by subst e; exact h.g)), h.g⟩
theorem Base.ok {w0 w : World} {g : Nat} (h : Base w0 w g) : VarsOk w := h.vars.turned h.t
theorem turned_same {w w' : World} {g : Nat} (h : Turned (fun _ => False) w w') : Turned (· = g) w w' := h.mono fun _ e => e.elim
theorem Turned.eq_ {a b c : World} {g : Nat} (h : Turned (· = g) a b) (k : Turned (· = g) b c) : Turned (· = g) a c := h.trans k (fun _ e => e) (fun _ e => .inl e)
def numbPost (B g : Nat) (ws : WS) (bad : Bool) (w : World) (e : Ending) (w' : World) : Prop :=
 e = .returned (.int .i64 (numV ws)) ∧ RdB w' B g ws.tail (nullB ws bad) ∧ Turned (· = g) w w'
set_option maxHeartbeats 1000000 in
theorem number_b (B g : Nat) (ws : WS) (bad : Bool) (w0 w : World) (h : RdB w B g ws bad) (hB : Base w0 w g) : Calls Tryz.prog 66 #[.pointer (some ⟨g, 0, none⟩)] w (numbPost B g ws bad w) := by
 have hlen := h.head
 unfold lenOk at hlen
 have hw := word_any B g ws bad w h
 unfold wordPost at hw
 have hnull : (bad || ws.isEmpty || !(numL (ws.headD [])).isSome) = nullB ws bad := by
  unfold nullB
  cases ws with
  | nil => simp [numL_nil]
  | cons x ws => simp
 unfold numbPost numV
 generalize nullB ws bad = nb at *
 generalize ws.headD [] = hd at *
 have hN := hZ (fun (w1 : World) (hb : Base w0 w1 g) => number_any ⟨hd.toArray⟩ w1 hb.ok (by show hd.toArray.size ≤ _; rw [List.size_toArray]; omega))
 generalize ws.isEmpty = em at *
 generalize ws.tail = wt at *
 have hB' := hZ hB
 have hw' := hZ hw
 have hnull' := hZ hnull
 clear h hB hlen hnull hw
 go_enter Tryz.func66, Tryz.ntmps66
 go_wp2_with fail
 refine hw'.out.mono ?_
 rintro e w1 ⟨rfl, R1, t1⟩
 have B1 := hZ (hB'.out.next t1)
 have R1' := hZ R1
 have t1' := hZ t1
 clear R1 t1
 go_wp2_with fail
 refine (hN.out w1 B1.out).mono ?_
 rintro e w2 ⟨rfl, t2⟩
 have R2 := hZ (R1'.out.fresh t2)
 have t2' := hZ (t1'.out.eq_ (turned_same t2))
 clear t2
 have c2 := R2.out.cells.1
 have f2 := R2.out.cells.2
 have FI := hZ (fun (b : Bool) (hb : b = nb) (w3 : World) (e : w3 = w2.setCell ⟨g, 1, none⟩ (.bool b)) => show RdB w3 B g wt nb ∧ Turned (· = g) w w3 from ⟨by
  subst hb e
  exact R2.out.bad_ _, by
  subst e
  exact t2'.out.eq_ (turned_one _ _ _ _)⟩)
 cases hno : numL hd with
 | none =>
  rw [hno] at hnull'
  cases hbe : (bad || em) with
  | true =>
   rw [hbe] at c2
   go_wp2
   all_goals
    go_ret
    exact ⟨by rw [hno]; rfl, FI.out true (by rw [← hnull'.out, hbe]; rfl) _ rfl⟩
  | false =>
   rw [hbe] at c2
   go_wp2
   all_goals
    go_ret
    exact ⟨by rw [hno]; rfl, FI.out true (by rw [← hnull'.out, hbe]; rfl) _ rfl⟩
 | some v =>
  rw [hno] at hnull'
  cases hbe : (bad || em) with
  | true =>
   rw [hbe] at c2
   go_wp2
   all_goals
    go_ret
    exact ⟨by rw [hno]; rfl, FI.out true (by rw [← hnull'.out, hbe]; rfl) _ rfl⟩
  | false =>
   rw [hbe] at c2
   go_wp2
   all_goals
    go_ret
    exact ⟨by rw [hno]; rfl, FI.out false (by rw [← hnull'.out, hbe]; rfl) _ rfl⟩
def sessPost (B g : Nat) (ws : WS) (bad : Bool) (w : World) (e : Ending) (w' : World) : Prop :=
 e = .returned (.int .i64 (numV ws)) ∧ RdB w' B g ws.tail (sessB ws bad) ∧ Turned (· = g) w w'
theorem numL_64 (l : List UInt8) : I64 ((numL l).getD 0) := by
 cases h : numL l with
 | none => unfold I64; decide
 | some v =>
  have := (numL_some h).2
  unfold int64 at this
  unfold I64
  simp only [Option.getD_some]
  omega
set_option maxHeartbeats 1000000 in
theorem session_b (B g : Nat) (ws : WS) (bad : Bool) (w0 w : World) (h : RdB w B g ws bad) (hB : Base w0 w g) : Calls Tryz.prog 64 #[.pointer (some ⟨g, 0, none⟩)] w (sessPost B g ws bad w) := by
 have hn := number_b B g ws bad w0 w h hB
 unfold numbPost numV at hn
 unfold sessPost sessB numV
 generalize nullB ws bad = nb at *
 have h64 := numL_64 (ws.headD [])
 generalize (numL (ws.headD [])).getD 0 = v at *
 generalize ws.tail = wt at *
 unfold I64 at h64
 have hn' := hZ hn
 clear hn h hB
 go_enter Tryz.func64, Tryz.ntmps64
 go_wp2_with fail
 refine hn'.out.mono ?_
 rintro e w2 ⟨rfl, R2, t2⟩
 have R2' := hZ R2
 have t2' := hZ t2
 have c2 := R2.cells.1
 have f2 := R2.cells.2
 clear R2 t2
 have FI := hZ (fun (b : Bool) (hb : b = (nb || decide (v < 0) || decide (4 ≤ v))) (w3 : World) (e : w3 = w2.setCell ⟨g, 1, none⟩ (.bool b)) => show RdB w3 B g wt (nb || decide (v < 0) || decide (4 ≤ v)) ∧ Turned (· = g) w w3 from ⟨by
  rw [← hb]
  subst e
  exact R2'.out.bad_ _, by
  subst e
  exact t2'.out.eq_ (turned_one _ _ _ _)⟩)
 cases nb with
 | true =>
  go_wp2
  all_goals
   go_ret
   exact ⟨rfl, FI.out true (by simp) _ rfl⟩
 | false =>
  by_cases h1 : v < 0
  ·go_wp2
   all_goals
    go_ret
    exact ⟨rfl, FI.out true (by simp [h1]) _ rfl⟩
  ·by_cases h2 : 4 ≤ v
   ·go_wp2
    all_goals
     go_ret
     exact ⟨rfl, FI.out true (by simp [h2]) _ rfl⟩
   ·go_wp2
    all_goals
     go_ret
     exact ⟨rfl, FI.out (decide (v < 0) || decide (4 ≤ v)) (by simp) _ rfl⟩
end Go.Proofs.YtglojnmcbochaaaGreatDoor

namespace Go.Proofs
open Go.Shelf
def Tryz.lays156_ren : Go.Shelf.Ren := ⟨fun | 156 => 21 | 165 => 55 | 166 => 56 | 169 => 57 | 240 => 92 | 241 => 93 | 276 => 125 | 277 => 126 | n => n, fun | 31 => 26 | 9 => 9 | 3 => 3 | 4 => 4 | 0 => 0 | 20 => 20 | 72 => 108 | 76 => 112 | 70 => 105 | 37 => 106 | 75 => 111 | 127 => 155 | 164 => 188 | 5 => 5 | 80 => 114 | n => n, fun | n => n⟩
theorem Tryz.lays156 : Go.Proofs.Lays.n156 Tryz.prog Tryz.lays156_ren := {
 mixed := by kernel_rfl
 f156 := Tryz.func21.trans (congrArg some (by kernel_rfl))
 f165 := Tryz.func55.trans (congrArg some (by kernel_rfl))
 f166 := Tryz.func56.trans (congrArg some (by kernel_rfl))
 f169 := Tryz.func57.trans (congrArg some (by kernel_rfl))
 f240 := Tryz.func92.trans (congrArg some (by kernel_rfl))
 f241 := Tryz.func93.trans (congrArg some (by kernel_rfl))
 f276 := Tryz.func125.trans (congrArg some (by kernel_rfl))
 f277 := Tryz.func126.trans (congrArg some (by kernel_rfl))
 t0 := Tryz.underlying0
 a0 := Tryz.isAgg0
 z0 := Tryz.sizeOf0
 v0 := Tryz.zeroValue0
 t3 := Tryz.underlying3
 a3 := Tryz.isAgg3
 z3 := Tryz.sizeOf3
 v3 := Tryz.zeroValue3
 t4 := Tryz.underlying4
 a4 := Tryz.isAgg4
 z4 := Tryz.sizeOf4
 v4 := Tryz.zeroValue4
 t9 := Tryz.underlying9
 a9 := Tryz.isAgg9
 z9 := Tryz.sizeOf9
 v9 := Tryz.zeroValue9
 t20 := Tryz.underlying20
 a20 := Tryz.isAgg20
 z20 := Tryz.sizeOf20
 v20 := Tryz.zeroValue20
 t31 := Tryz.underlying26
 a31 := Tryz.isAgg26
 z31 := Tryz.sizeOf26
 v31 := Tryz.zeroValue26
 t37 := Tryz.underlying106
 a37 := Tryz.isAgg106
 z37 := Tryz.sizeOf106
 v37 := Tryz.zeroValue106
 t70 := Tryz.underlying105
 a70 := Tryz.isAgg105
 z70 := Tryz.sizeOf105
 v70 := Tryz.zeroValue105
 t72 := Tryz.underlying108
 a72 := Tryz.isAgg108
 z72 := Tryz.sizeOf108
 v72 := Tryz.zeroValue108
 t75 := Tryz.underlying111
 a75 := Tryz.isAgg111
 z75 := Tryz.sizeOf111
 v75 := Tryz.zeroValue111
 t76 := Tryz.underlying112
 a76 := Tryz.isAgg112
 z76 := Tryz.sizeOf112
 v76 := Tryz.zeroValue112
 t127 := Tryz.underlying155
 a127 := Tryz.isAgg155
 z127 := Tryz.sizeOf155
 v127 := Tryz.zeroValue155
 t164 := Tryz.underlying188
 a164 := Tryz.isAgg188
 z164 := Tryz.sizeOf188
 v164 := Tryz.zeroValue188 }
def Tryz.lays160_ren : Go.Shelf.Ren := ⟨fun | 160 => 88 | 232 => 116 | 231 => 115 | 227 => 117 | 234 => 119 | 233 => 118 | 236 => 121 | 235 => 120 | 228 => 136 | 271 => 138 | 151 => 137 | 197 => 128 | 120 => 152 | 152 => 151 | 260 => 143 | 137 => 162 | 119 => 163 | 224 => 141 | 225 => 140 | 217 => 139 | 266 => 153 | n => n, fun | 9 => 9 | 4 => 4 | 3 => 3 | 5 => 5 | 117 => 173 | 116 => 172 | 0 => 0 | 124 => 176 | 21 => 21 | 105 => 191 | 46 => 115 | 119 => 102 | 139 => 217 | 138 => 216 | n => n, fun | 3 => 6 | 4 => 7 | n => n⟩
theorem Tryz.lays160 : Go.Proofs.Lays.n160 Tryz.prog Tryz.lays160_ren := {
 mixed := by kernel_rfl
 f119 := Tryz.func163.trans (congrArg some (by kernel_rfl))
 f120 := Tryz.func152.trans (congrArg some (by kernel_rfl))
 f137 := Tryz.func162.trans (congrArg some (by kernel_rfl))
 f151 := Tryz.func137.trans (congrArg some (by kernel_rfl))
 f152 := Tryz.func151.trans (congrArg some (by kernel_rfl))
 f160 := Tryz.func88.trans (congrArg some (by kernel_rfl))
 f197 := Tryz.func128.trans (congrArg some (by kernel_rfl))
 f217 := Tryz.func139.trans (congrArg some (by kernel_rfl))
 f224 := Tryz.func141.trans (congrArg some (by kernel_rfl))
 f225 := Tryz.func140.trans (congrArg some (by kernel_rfl))
 f227 := Tryz.func117.trans (congrArg some (by kernel_rfl))
 f228 := Tryz.func136.trans (congrArg some (by kernel_rfl))
 f231 := Tryz.func115.trans (congrArg some (by kernel_rfl))
 f232 := Tryz.func116.trans (congrArg some (by kernel_rfl))
 f233 := Tryz.func118.trans (congrArg some (by kernel_rfl))
 f234 := Tryz.func119.trans (congrArg some (by kernel_rfl))
 f235 := Tryz.func120.trans (congrArg some (by kernel_rfl))
 f236 := Tryz.func121.trans (congrArg some (by kernel_rfl))
 f260 := Tryz.func143.trans (congrArg some (by kernel_rfl))
 f266 := Tryz.func153.trans (congrArg some (by kernel_rfl))
 f271 := Tryz.func138.trans (congrArg some (by kernel_rfl))
 t0 := Tryz.underlying0
 a0 := Tryz.isAgg0
 z0 := Tryz.sizeOf0
 v0 := Tryz.zeroValue0
 t3 := Tryz.underlying3
 a3 := Tryz.isAgg3
 z3 := Tryz.sizeOf3
 v3 := Tryz.zeroValue3
 t4 := Tryz.underlying4
 a4 := Tryz.isAgg4
 z4 := Tryz.sizeOf4
 v4 := Tryz.zeroValue4
 t5 := Tryz.underlying5
 a5 := Tryz.isAgg5
 z5 := Tryz.sizeOf5
 v5 := Tryz.zeroValue5
 t9 := Tryz.underlying9
 a9 := Tryz.isAgg9
 z9 := Tryz.sizeOf9
 v9 := Tryz.zeroValue9
 t21 := Tryz.underlying21
 a21 := Tryz.isAgg21
 z21 := Tryz.sizeOf21
 v21 := Tryz.zeroValue21
 t46 := Tryz.underlying115
 a46 := Tryz.isAgg115
 z46 := Tryz.sizeOf115
 v46 := Tryz.zeroValue115
 t105 := Tryz.underlying191
 a105 := Tryz.isAgg191
 z105 := Tryz.sizeOf191
 v105 := Tryz.zeroValue191
 t116 := Tryz.underlying172
 a116 := Tryz.isAgg172
 z116 := Tryz.sizeOf172
 t117 := Tryz.underlying173
 a117 := Tryz.isAgg173
 z117 := Tryz.sizeOf173
 v117 := Tryz.zeroValue173
 t119 := Tryz.underlying102
 a119 := Tryz.isAgg102
 z119 := Tryz.sizeOf102
 t124 := Tryz.underlying176
 a124 := Tryz.isAgg176
 z124 := Tryz.sizeOf176
 v124 := Tryz.zeroValue176
 t138 := Tryz.underlying216
 a138 := Tryz.isAgg216
 z138 := Tryz.sizeOf216
 v138 := Tryz.zeroValue216
 t139 := Tryz.underlying217
 a139 := Tryz.isAgg217
 z139 := Tryz.sizeOf217
 v139 := Tryz.zeroValue217
 g3 := by kernel_rfl
 g4 := by kernel_rfl }
def Tryz.lays143_ren : Go.Shelf.Ren := ⟨fun | 143 => 90 | 219 => 122 | 217 => 139 | 225 => 140 | 224 => 141 | 267 => 142 | 266 => 153 | 314 => 154 | n => n, fun | 9 => 9 | 3 => 3 | 4 => 4 | 5 => 5 | 46 => 115 | 146 => 156 | 51 => 152 | n => n, fun | 1 => 4 | n => n⟩
theorem Tryz.lays143 : Go.Proofs.Lays.n143 Tryz.prog Tryz.lays143_ren := {
 mixed := by kernel_rfl
 f143 := Tryz.func90.trans (congrArg some (by kernel_rfl))
 f217 := Tryz.func139.trans (congrArg some (by kernel_rfl))
 f219 := Tryz.func122.trans (congrArg some (by kernel_rfl))
 f224 := Tryz.func141.trans (congrArg some (by kernel_rfl))
 f225 := Tryz.func140.trans (congrArg some (by kernel_rfl))
 f266 := Tryz.func153.trans (congrArg some (by kernel_rfl))
 f267 := Tryz.func142.trans (congrArg some (by kernel_rfl))
 f314 := Tryz.func154.trans (congrArg some (by kernel_rfl))
 t3 := Tryz.underlying3
 a3 := Tryz.isAgg3
 z3 := Tryz.sizeOf3
 v3 := Tryz.zeroValue3
 t4 := Tryz.underlying4
 a4 := Tryz.isAgg4
 z4 := Tryz.sizeOf4
 v4 := Tryz.zeroValue4
 t5 := Tryz.underlying5
 a5 := Tryz.isAgg5
 z5 := Tryz.sizeOf5
 v5 := Tryz.zeroValue5
 t9 := Tryz.underlying9
 a9 := Tryz.isAgg9
 z9 := Tryz.sizeOf9
 v9 := Tryz.zeroValue9
 t46 := Tryz.underlying115
 a46 := Tryz.isAgg115
 z46 := Tryz.sizeOf115
 v46 := Tryz.zeroValue115
 t51 := Tryz.underlying152
 a51 := Tryz.isAgg152
 z51 := Tryz.sizeOf152
 v51 := Tryz.zeroValue152
 t146 := Tryz.underlying156
 a146 := Tryz.isAgg156
 z146 := Tryz.sizeOf156
 v146 := Tryz.zeroValue156
 g1 := by kernel_rfl }
def Tryz.lays144_ren : Go.Shelf.Ren := ⟨fun | 144 => 51 | 143 => 90 | 219 => 122 | 217 => 139 | 225 => 140 | 224 => 141 | 267 => 142 | 266 => 153 | 314 => 154 | n => n, fun | 9 => 9 | 4 => 4 | 3 => 3 | 5 => 5 | 46 => 115 | 146 => 156 | 51 => 152 | n => n, fun | 1 => 4 | n => n⟩
theorem Tryz.lays144 : Go.Proofs.Lays.n144 Tryz.prog Tryz.lays144_ren := {
 mixed := by kernel_rfl
 f143 := Tryz.func90.trans (congrArg some (by kernel_rfl))
 f144 := Tryz.func51.trans (congrArg some (by kernel_rfl))
 f217 := Tryz.func139.trans (congrArg some (by kernel_rfl))
 f219 := Tryz.func122.trans (congrArg some (by kernel_rfl))
 f224 := Tryz.func141.trans (congrArg some (by kernel_rfl))
 f225 := Tryz.func140.trans (congrArg some (by kernel_rfl))
 f266 := Tryz.func153.trans (congrArg some (by kernel_rfl))
 f267 := Tryz.func142.trans (congrArg some (by kernel_rfl))
 f314 := Tryz.func154.trans (congrArg some (by kernel_rfl))
 t3 := Tryz.underlying3
 a3 := Tryz.isAgg3
 z3 := Tryz.sizeOf3
 v3 := Tryz.zeroValue3
 t4 := Tryz.underlying4
 a4 := Tryz.isAgg4
 z4 := Tryz.sizeOf4
 v4 := Tryz.zeroValue4
 t5 := Tryz.underlying5
 a5 := Tryz.isAgg5
 z5 := Tryz.sizeOf5
 v5 := Tryz.zeroValue5
 t9 := Tryz.underlying9
 a9 := Tryz.isAgg9
 z9 := Tryz.sizeOf9
 v9 := Tryz.zeroValue9
 t46 := Tryz.underlying115
 a46 := Tryz.isAgg115
 z46 := Tryz.sizeOf115
 v46 := Tryz.zeroValue115
 t51 := Tryz.underlying152
 a51 := Tryz.isAgg152
 z51 := Tryz.sizeOf152
 v51 := Tryz.zeroValue152
 t146 := Tryz.underlying156
 a146 := Tryz.isAgg156
 z146 := Tryz.sizeOf156
 v146 := Tryz.zeroValue156
 g1 := by kernel_rfl }
def Tryz.lays157_ren : Go.Shelf.Ren := ⟨fun | 157 => 19 | 229 => 53 | 199 => 54 | 261 => 91 | 311 => 123 | 312 => 124 | n => n, fun | 9 => 9 | 31 => 26 | 3 => 3 | 5 => 5 | 4 => 4 | 119 => 102 | 0 => 0 | 40 => 104 | 152 => 149 | 21 => 21 | 154 => 151 | 51 => 152 | 141 => 154 | 196 => 180 | 193 => 177 | 198 => 183 | 49 => 181 | 194 => 178 | 201 => 186 | 226 => 205 | 46 => 115 | 227 => 206 | n => n, fun | 0 => 0 | 6 => 3 | n => n⟩
theorem Tryz.lays157 : Go.Proofs.Lays.n157 Tryz.prog Tryz.lays157_ren := {
 mixed := by kernel_rfl
 f157 := Tryz.func19.trans (congrArg some (by kernel_rfl))
 f199 := Tryz.func54.trans (congrArg some (by kernel_rfl))
 f229 := Tryz.func53.trans (congrArg some (by kernel_rfl))
 f261 := Tryz.func91.trans (congrArg some (by kernel_rfl))
 f311 := Tryz.func123.trans (congrArg some (by kernel_rfl))
 f312 := Tryz.func124.trans (congrArg some (by kernel_rfl))
 t0 := Tryz.underlying0
 a0 := Tryz.isAgg0
 z0 := Tryz.sizeOf0
 v0 := Tryz.zeroValue0
 t3 := Tryz.underlying3
 a3 := Tryz.isAgg3
 z3 := Tryz.sizeOf3
 v3 := Tryz.zeroValue3
 t4 := Tryz.underlying4
 a4 := Tryz.isAgg4
 z4 := Tryz.sizeOf4
 v4 := Tryz.zeroValue4
 t5 := Tryz.underlying5
 a5 := Tryz.isAgg5
 z5 := Tryz.sizeOf5
 v5 := Tryz.zeroValue5
 t9 := Tryz.underlying9
 a9 := Tryz.isAgg9
 z9 := Tryz.sizeOf9
 v9 := Tryz.zeroValue9
 t21 := Tryz.underlying21
 a21 := Tryz.isAgg21
 z21 := Tryz.sizeOf21
 v21 := Tryz.zeroValue21
 t31 := Tryz.underlying26
 a31 := Tryz.isAgg26
 z31 := Tryz.sizeOf26
 v31 := Tryz.zeroValue26
 t40 := Tryz.underlying104
 a40 := Tryz.isAgg104
 z40 := Tryz.sizeOf104
 v40 := Tryz.zeroValue104
 t46 := Tryz.underlying115
 a46 := Tryz.isAgg115
 z46 := Tryz.sizeOf115
 v46 := Tryz.zeroValue115
 t49 := Tryz.underlying181
 a49 := Tryz.isAgg181
 z49 := Tryz.sizeOf181
 v49 := Tryz.zeroValue181
 t51 := Tryz.underlying152
 a51 := Tryz.isAgg152
 z51 := Tryz.sizeOf152
 v51 := Tryz.zeroValue152
 t119 := Tryz.underlying102
 a119 := Tryz.isAgg102
 z119 := Tryz.sizeOf102
 t141 := Tryz.underlying154
 a141 := Tryz.isAgg154
 z141 := Tryz.sizeOf154
 v141 := Tryz.zeroValue154
 t152 := Tryz.underlying149
 a152 := Tryz.isAgg149
 z152 := Tryz.sizeOf149
 v152 := Tryz.zeroValue149
 t154 := Tryz.underlying151
 a154 := Tryz.isAgg151
 z154 := Tryz.sizeOf151
 v154 := Tryz.zeroValue151
 t193 := Tryz.underlying177
 a193 := Tryz.isAgg177
 z193 := Tryz.sizeOf177
 v193 := Tryz.zeroValue177
 t194 := Tryz.underlying178
 a194 := Tryz.isAgg178
 z194 := Tryz.sizeOf178
 v194 := Tryz.zeroValue178
 t196 := Tryz.underlying180
 a196 := Tryz.isAgg180
 z196 := Tryz.sizeOf180
 v196 := Tryz.zeroValue180
 t198 := Tryz.underlying183
 a198 := Tryz.isAgg183
 z198 := Tryz.sizeOf183
 v198 := Tryz.zeroValue183
 t201 := Tryz.underlying186
 a201 := Tryz.isAgg186
 z201 := Tryz.sizeOf186
 v201 := Tryz.zeroValue186
 t226 := Tryz.underlying205
 a226 := Tryz.isAgg205
 z226 := Tryz.sizeOf205
 v226 := Tryz.zeroValue205
 t227 := Tryz.underlying206
 a227 := Tryz.isAgg206
 z227 := Tryz.sizeOf206
 v227 := Tryz.zeroValue206
 g0 := by kernel_rfl
 g6 := by kernel_rfl }
def Tryz.lays105_ren : Go.Shelf.Ren := ⟨fun | 105 => 23 | 212 => 58 | 99 => 59 | 165 => 55 | 166 => 56 | 170 => 60 | 169 => 57 | 263 => 94 | 264 => 95 | 206 => 96 | 240 => 92 | 241 => 93 | 276 => 125 | 277 => 126 | n => n, fun | 9 => 9 | 3 => 3 | 4 => 4 | 20 => 20 | 0 => 0 | 46 => 115 | 109 => 116 | 5 => 5 | 72 => 108 | 76 => 112 | 51 => 152 | 146 => 156 | 53 => 139 | 148 => 158 | 70 => 105 | 37 => 106 | 75 => 111 | 127 => 155 | 164 => 188 | 80 => 114 | n => n, fun | n => n⟩
theorem Tryz.lays105 : Go.Proofs.Lays.n105 Tryz.prog Tryz.lays105_ren := {
 mixed := by kernel_rfl
 f99 := Tryz.func59.trans (congrArg some (by kernel_rfl))
 f105 := Tryz.func23.trans (congrArg some (by kernel_rfl))
 f165 := Tryz.func55.trans (congrArg some (by kernel_rfl))
 f166 := Tryz.func56.trans (congrArg some (by kernel_rfl))
 f169 := Tryz.func57.trans (congrArg some (by kernel_rfl))
 f170 := Tryz.func60.trans (congrArg some (by kernel_rfl))
 f206 := Tryz.func96.trans (congrArg some (by kernel_rfl))
 f212 := Tryz.func58.trans (congrArg some (by kernel_rfl))
 f240 := Tryz.func92.trans (congrArg some (by kernel_rfl))
 f241 := Tryz.func93.trans (congrArg some (by kernel_rfl))
 f263 := Tryz.func94.trans (congrArg some (by kernel_rfl))
 f264 := Tryz.func95.trans (congrArg some (by kernel_rfl))
 f276 := Tryz.func125.trans (congrArg some (by kernel_rfl))
 f277 := Tryz.func126.trans (congrArg some (by kernel_rfl))
 t0 := Tryz.underlying0
 a0 := Tryz.isAgg0
 z0 := Tryz.sizeOf0
 v0 := Tryz.zeroValue0
 t3 := Tryz.underlying3
 a3 := Tryz.isAgg3
 z3 := Tryz.sizeOf3
 v3 := Tryz.zeroValue3
 t4 := Tryz.underlying4
 a4 := Tryz.isAgg4
 z4 := Tryz.sizeOf4
 v4 := Tryz.zeroValue4
 t5 := Tryz.underlying5
 a5 := Tryz.isAgg5
 z5 := Tryz.sizeOf5
 v5 := Tryz.zeroValue5
 t9 := Tryz.underlying9
 a9 := Tryz.isAgg9
 z9 := Tryz.sizeOf9
 v9 := Tryz.zeroValue9
 t20 := Tryz.underlying20
 a20 := Tryz.isAgg20
 z20 := Tryz.sizeOf20
 v20 := Tryz.zeroValue20
 t37 := Tryz.underlying106
 a37 := Tryz.isAgg106
 z37 := Tryz.sizeOf106
 v37 := Tryz.zeroValue106
 t46 := Tryz.underlying115
 a46 := Tryz.isAgg115
 z46 := Tryz.sizeOf115
 v46 := Tryz.zeroValue115
 t51 := Tryz.underlying152
 a51 := Tryz.isAgg152
 z51 := Tryz.sizeOf152
 v51 := Tryz.zeroValue152
 t53 := Tryz.underlying139
 a53 := Tryz.isAgg139
 z53 := Tryz.sizeOf139
 v53 := Tryz.zeroValue139
 t70 := Tryz.underlying105
 a70 := Tryz.isAgg105
 z70 := Tryz.sizeOf105
 v70 := Tryz.zeroValue105
 t72 := Tryz.underlying108
 a72 := Tryz.isAgg108
 z72 := Tryz.sizeOf108
 v72 := Tryz.zeroValue108
 t75 := Tryz.underlying111
 a75 := Tryz.isAgg111
 z75 := Tryz.sizeOf111
 v75 := Tryz.zeroValue111
 t76 := Tryz.underlying112
 a76 := Tryz.isAgg112
 z76 := Tryz.sizeOf112
 v76 := Tryz.zeroValue112
 t109 := Tryz.underlying116
 a109 := Tryz.isAgg116
 z109 := Tryz.sizeOf116
 v109 := Tryz.zeroValue116
 t127 := Tryz.underlying155
 a127 := Tryz.isAgg155
 z127 := Tryz.sizeOf155
 v127 := Tryz.zeroValue155
 t146 := Tryz.underlying156
 a146 := Tryz.isAgg156
 z146 := Tryz.sizeOf156
 v146 := Tryz.zeroValue156
 t148 := Tryz.underlying158
 a148 := Tryz.isAgg158
 z148 := Tryz.sizeOf158
 v148 := Tryz.zeroValue158
 t164 := Tryz.underlying188
 a164 := Tryz.isAgg188
 z164 := Tryz.sizeOf188
 v164 := Tryz.zeroValue188 }
def Tryz.lays110_ren : Go.Shelf.Ren := ⟨fun | 110 => 50 | 109 => 89 | n => n, fun | 31 => 26 | 9 => 9 | 4 => 4 | 3 => 3 | 0 => 0 | n => n, fun | n => n⟩
theorem Tryz.lays110 : Go.Proofs.Lays.n110 Tryz.prog Tryz.lays110_ren := {
 mixed := by kernel_rfl
 f109 := Tryz.func89.trans (congrArg some (by kernel_rfl))
 f110 := Tryz.func50.trans (congrArg some (by kernel_rfl))
 t0 := Tryz.underlying0
 a0 := Tryz.isAgg0
 z0 := Tryz.sizeOf0
 v0 := Tryz.zeroValue0
 t3 := Tryz.underlying3
 a3 := Tryz.isAgg3
 z3 := Tryz.sizeOf3
 v3 := Tryz.zeroValue3
 t4 := Tryz.underlying4
 a4 := Tryz.isAgg4
 z4 := Tryz.sizeOf4
 v4 := Tryz.zeroValue4
 t9 := Tryz.underlying9
 a9 := Tryz.isAgg9
 z9 := Tryz.sizeOf9
 v9 := Tryz.zeroValue9
 t31 := Tryz.underlying26
 a31 := Tryz.isAgg26
 z31 := Tryz.sizeOf26
 v31 := Tryz.zeroValue26 }
end Go.Proofs

