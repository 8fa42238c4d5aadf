/-
 ask's small functions: within, Changes, fields, unlike, parted. Conditions: ask.kinds holds what its initialiser lays; lists of at most 1000000.
-/
import Derived.Test.YtglojnmcbochaaaGreatDoorUShelf
import Derived.Test.YtglojnmcbochaaaGreatDoorUShf
import Derived.RegionTactic
namespace Go.Proofs.YtglojnmcbochaaaGreatDoor
open Go.RowKit Go.Maps
set_option linter.unusedVariables false
set_option linter.unusedSimpArgs false

def kindT : List (List UInt8) := [[], [105, 108], [105, 112], [105, 111], [105, 113], [105, 113, 100], [116, 100], [116], [116], [105, 113, 100, 114], [110], [110], [45], [105, 113, 100], [110], [105]]
def KindsOk (w : World) : Prop := ∀ i, i < 16 → w.cell? ⟨2, i, none⟩ = some (strV (kindT.getD i []))
theorem KindsOk.turned {W : Nat → Prop} {w w' : World} (h : KindsOk w) (ht : Turned W w w') (hW : ¬ W 2) : KindsOk w' := fun i hi => cell_turned ht (h i hi) hW
theorem KindsOk.fresh {w w' : World} (h : KindsOk w) (ht : Turned (fun _ => False) w w') : KindsOk w' := h.turned ht (fun e => e)
theorem within_any (n a b : Int) (w : World) : Calls Tryz.prog 46 #[.int .i64 n, .int .i64 a, .int .i64 b] w (RetSame (.bool (withinB n a b)) w) := by
 unfold withinB
 by_cases h1 : a ≤ n
 ·by_cases h2 : n ≤ b
  ·go_enter Tryz.func46, Tryz.ntmps46
   go_wp2
   go_ret
   exact ⟨ret_bool (by simp [h1, h2]), rfl⟩
  ·go_enter Tryz.func46, Tryz.ntmps46
   go_wp2
   go_ret
   exact ⟨ret_bool (by simp; omega), rfl⟩
 ·go_enter Tryz.func46, Tryz.ntmps46
  go_wp2
  go_ret
  exact ⟨ret_bool (by simp; omega), rfl⟩
def fieldsV (k : Int) : Value := match fieldsK k with
 | some f => .tuple #[.string (fBA f), .bool true]
 | none => .tuple #[.string ⟨#[]⟩, .bool false]
def FieldsPost (k : Int) (w : World) (e : Ending) (w' : World) : Prop := e = .returned (fieldsV k) ∧ Turned (fun _ => False) w w'
set_option maxRecDepth 100000 in
set_option maxHeartbeats 1000000 in
theorem fields_any (k : Int) (w : World) (hk : isByte k) (hK : KindsOk w) : Calls Tryz.prog 45 #[.int .u8 k] w (FieldsPost k w) := by
 unfold isByte at hk
 by_cases h15 : 15 < k
 ·have e' := hZ (show fieldsV k = .tuple #[.string ⟨#[]⟩, .bool false] by unfold fieldsV; rw [fieldsK_none (.inr h15)])
  have hge : (16 : Int) ≤ k := by omega
  clear hK
  go_enter Tryz.func45, Tryz.ntmps45
  go_wp2
  go_ret2
  exact ⟨by rw [e'.out]; rfl, Turned.refl _ _⟩
 ·rcases (show k = 0 ∨ k = 1 ∨ k = 2 ∨ k = 3 ∨ k = 4 ∨ k = 5 ∨ k = 6 ∨ k = 7 ∨ k = 8 ∨ k = 9 ∨ k = 10 ∨ k = 11 ∨ k = 12 ∨ k = 13 ∨ k = 14 ∨ k = 15 by omega) with rfl | rfl | rfl | rfl | rfl | rfl | rfl | rfl | rfl | rfl | rfl | rfl | rfl | rfl | rfl | rfl
  ·have q : w.cell? ⟨2, 0, none⟩ = some (.string ⟨#[]⟩) := hK 0 (by omega)
   clear hK
   go_enter Tryz.func45, Tryz.ntmps45
   go_wp2
   go_ret2
   exact ⟨rfl, Turned.refl _ _⟩
  ·have q : w.cell? ⟨2, 1, none⟩ = some (.string ⟨#[105, 108]⟩) := hK 1 (by omega)
   have hc := Any.strings_Trim_one Tryz.lays160 ⟨#[105, 108]⟩ 45 (by decide) w (by decide)
   rw [show Lib.trimB (⟨#[105, 108]⟩ : ByteArray).data.toList 45 = [105, 108] by decide] at hc
   have hc' := hZ hc
   clear hK hc
   go_enter Tryz.func45, Tryz.ntmps45
   go_wp2_with fail
   refine hc'.out.mono ?_
   rintro e w1 ⟨rfl, hw⟩
   have ht : Turned (fun _ => False) w w1 := by
    rcases hw with rfl | rfl
    ·exact Turned.refl _ _
    ·exact (Turned.refl _ _).drew
   have ht' := hZ ht
   clear hw ht
   go_wp2_with fail
   go_ret2
   exact ⟨rfl, ht'.out⟩
  ·have q : w.cell? ⟨2, 2, none⟩ = some (.string ⟨#[105, 112]⟩) := hK 2 (by omega)
   have hc := Any.strings_Trim_one Tryz.lays160 ⟨#[105, 112]⟩ 45 (by decide) w (by decide)
   rw [show Lib.trimB (⟨#[105, 112]⟩ : ByteArray).data.toList 45 = [105, 112] by decide] at hc
   have hc' := hZ hc
   clear hK hc
   go_enter Tryz.func45, Tryz.ntmps45
   go_wp2_with fail
   refine hc'.out.mono ?_
   rintro e w1 ⟨rfl, hw⟩
   have ht : Turned (fun _ => False) w w1 := by
    rcases hw with rfl | rfl
    ·exact Turned.refl _ _
    ·exact (Turned.refl _ _).drew
   have ht' := hZ ht
   clear hw ht
   go_wp2_with fail
   go_ret2
   exact ⟨rfl, ht'.out⟩
  ·have q : w.cell? ⟨2, 3, none⟩ = some (.string ⟨#[105, 111]⟩) := hK 3 (by omega)
   have hc := Any.strings_Trim_one Tryz.lays160 ⟨#[105, 111]⟩ 45 (by decide) w (by decide)
   rw [show Lib.trimB (⟨#[105, 111]⟩ : ByteArray).data.toList 45 = [105, 111] by decide] at hc
   have hc' := hZ hc
   clear hK hc
   go_enter Tryz.func45, Tryz.ntmps45
   go_wp2_with fail
   refine hc'.out.mono ?_
   rintro e w1 ⟨rfl, hw⟩
   have ht : Turned (fun _ => False) w w1 := by
    rcases hw with rfl | rfl
    ·exact Turned.refl _ _
    ·exact (Turned.refl _ _).drew
   have ht' := hZ ht
   clear hw ht
   go_wp2_with fail
   go_ret2
   exact ⟨rfl, ht'.out⟩
  ·have q : w.cell? ⟨2, 4, none⟩ = some (.string ⟨#[105, 113]⟩) := hK 4 (by omega)
   have hc := Any.strings_Trim_one Tryz.lays160 ⟨#[105, 113]⟩ 45 (by decide) w (by decide)
   rw [show Lib.trimB (⟨#[105, 113]⟩ : ByteArray).data.toList 45 = [105, 113] by decide] at hc
   have hc' := hZ hc
   clear hK hc
   go_enter Tryz.func45, Tryz.ntmps45
   go_wp2_with fail
   refine hc'.out.mono ?_
   rintro e w1 ⟨rfl, hw⟩
   have ht : Turned (fun _ => False) w w1 := by
    rcases hw with rfl | rfl
    ·exact Turned.refl _ _
    ·exact (Turned.refl _ _).drew
   have ht' := hZ ht
   clear hw ht
   go_wp2_with fail
   go_ret2
   exact ⟨rfl, ht'.out⟩
  ·have q : w.cell? ⟨2, 5, none⟩ = some (.string ⟨#[105, 113, 100]⟩) := hK 5 (by omega)
   have hc := Any.strings_Trim_one Tryz.lays160 ⟨#[105, 113, 100]⟩ 45 (by decide) w (by decide)
   rw [show Lib.trimB (⟨#[105, 113, 100]⟩ : ByteArray).data.toList 45 = [105, 113, 100] by decide] at hc
   have hc' := hZ hc
   clear hK hc
   go_enter Tryz.func45, Tryz.ntmps45
   go_wp2_with fail
   refine hc'.out.mono ?_
   rintro e w1 ⟨rfl, hw⟩
   have ht : Turned (fun _ => False) w w1 := by
    rcases hw with rfl | rfl
    ·exact Turned.refl _ _
    ·exact (Turned.refl _ _).drew
   have ht' := hZ ht
   clear hw ht
   go_wp2_with fail
   go_ret2
   exact ⟨rfl, ht'.out⟩
  ·have q : w.cell? ⟨2, 6, none⟩ = some (.string ⟨#[116, 100]⟩) := hK 6 (by omega)
   have hc := Any.strings_Trim_one Tryz.lays160 ⟨#[116, 100]⟩ 45 (by decide) w (by decide)
   rw [show Lib.trimB (⟨#[116, 100]⟩ : ByteArray).data.toList 45 = [116, 100] by decide] at hc
   have hc' := hZ hc
   clear hK hc
   go_enter Tryz.func45, Tryz.ntmps45
   go_wp2_with fail
   refine hc'.out.mono ?_
   rintro e w1 ⟨rfl, hw⟩
   have ht : Turned (fun _ => False) w w1 := by
    rcases hw with rfl | rfl
    ·exact Turned.refl _ _
    ·exact (Turned.refl _ _).drew
   have ht' := hZ ht
   clear hw ht
   go_wp2_with fail
   go_ret2
   exact ⟨rfl, ht'.out⟩
  ·have q : w.cell? ⟨2, 7, none⟩ = some (.string ⟨#[116]⟩) := hK 7 (by omega)
   have hc := Any.strings_Trim_one Tryz.lays160 ⟨#[116]⟩ 45 (by decide) w (by decide)
   rw [show Lib.trimB (⟨#[116]⟩ : ByteArray).data.toList 45 = [116] by decide] at hc
   have hc' := hZ hc
   clear hK hc
   go_enter Tryz.func45, Tryz.ntmps45
   go_wp2_with fail
   refine hc'.out.mono ?_
   rintro e w1 ⟨rfl, hw⟩
   have ht : Turned (fun _ => False) w w1 := by
    rcases hw with rfl | rfl
    ·exact Turned.refl _ _
    ·exact (Turned.refl _ _).drew
   have ht' := hZ ht
   clear hw ht
   go_wp2_with fail
   go_ret2
   exact ⟨rfl, ht'.out⟩
  ·have q : w.cell? ⟨2, 8, none⟩ = some (.string ⟨#[116]⟩) := hK 8 (by omega)
   have hc := Any.strings_Trim_one Tryz.lays160 ⟨#[116]⟩ 45 (by decide) w (by decide)
   rw [show Lib.trimB (⟨#[116]⟩ : ByteArray).data.toList 45 = [116] by decide] at hc
   have hc' := hZ hc
   clear hK hc
   go_enter Tryz.func45, Tryz.ntmps45
   go_wp2_with fail
   refine hc'.out.mono ?_
   rintro e w1 ⟨rfl, hw⟩
   have ht : Turned (fun _ => False) w w1 := by
    rcases hw with rfl | rfl
    ·exact Turned.refl _ _
    ·exact (Turned.refl _ _).drew
   have ht' := hZ ht
   clear hw ht
   go_wp2_with fail
   go_ret2
   exact ⟨rfl, ht'.out⟩
  ·have q : w.cell? ⟨2, 9, none⟩ = some (.string ⟨#[105, 113, 100, 114]⟩) := hK 9 (by omega)
   have hc := Any.strings_Trim_one Tryz.lays160 ⟨#[105, 113, 100, 114]⟩ 45 (by decide) w (by decide)
   rw [show Lib.trimB (⟨#[105, 113, 100, 114]⟩ : ByteArray).data.toList 45 = [105, 113, 100, 114] by decide] at hc
   have hc' := hZ hc
   clear hK hc
   go_enter Tryz.func45, Tryz.ntmps45
   go_wp2_with fail
   refine hc'.out.mono ?_
   rintro e w1 ⟨rfl, hw⟩
   have ht : Turned (fun _ => False) w w1 := by
    rcases hw with rfl | rfl
    ·exact Turned.refl _ _
    ·exact (Turned.refl _ _).drew
   have ht' := hZ ht
   clear hw ht
   go_wp2_with fail
   go_ret2
   exact ⟨rfl, ht'.out⟩
  ·have q : w.cell? ⟨2, 10, none⟩ = some (.string ⟨#[110]⟩) := hK 10 (by omega)
   have hc := Any.strings_Trim_one Tryz.lays160 ⟨#[110]⟩ 45 (by decide) w (by decide)
   rw [show Lib.trimB (⟨#[110]⟩ : ByteArray).data.toList 45 = [110] by decide] at hc
   have hc' := hZ hc
   clear hK hc
   go_enter Tryz.func45, Tryz.ntmps45
   go_wp2_with fail
   refine hc'.out.mono ?_
   rintro e w1 ⟨rfl, hw⟩
   have ht : Turned (fun _ => False) w w1 := by
    rcases hw with rfl | rfl
    ·exact Turned.refl _ _
    ·exact (Turned.refl _ _).drew
   have ht' := hZ ht
   clear hw ht
   go_wp2_with fail
   go_ret2
   exact ⟨rfl, ht'.out⟩
  ·have q : w.cell? ⟨2, 11, none⟩ = some (.string ⟨#[110]⟩) := hK 11 (by omega)
   have hc := Any.strings_Trim_one Tryz.lays160 ⟨#[110]⟩ 45 (by decide) w (by decide)
   rw [show Lib.trimB (⟨#[110]⟩ : ByteArray).data.toList 45 = [110] by decide] at hc
   have hc' := hZ hc
   clear hK hc
   go_enter Tryz.func45, Tryz.ntmps45
   go_wp2_with fail
   refine hc'.out.mono ?_
   rintro e w1 ⟨rfl, hw⟩
   have ht : Turned (fun _ => False) w w1 := by
    rcases hw with rfl | rfl
    ·exact Turned.refl _ _
    ·exact (Turned.refl _ _).drew
   have ht' := hZ ht
   clear hw ht
   go_wp2_with fail
   go_ret2
   exact ⟨rfl, ht'.out⟩
  ·have q : w.cell? ⟨2, 12, none⟩ = some (.string ⟨#[45]⟩) := hK 12 (by omega)
   have hc := Any.strings_Trim_one Tryz.lays160 ⟨#[45]⟩ 45 (by decide) w (by decide)
   rw [show Lib.trimB (⟨#[45]⟩ : ByteArray).data.toList 45 = [] by decide] at hc
   have hc' := hZ hc
   clear hK hc
   go_enter Tryz.func45, Tryz.ntmps45
   go_wp2_with fail
   refine hc'.out.mono ?_
   rintro e w1 ⟨rfl, hw⟩
   have ht : Turned (fun _ => False) w w1 := by
    rcases hw with rfl | rfl
    ·exact Turned.refl _ _
    ·exact (Turned.refl _ _).drew
   have ht' := hZ ht
   clear hw ht
   go_wp2_with fail
   go_ret2
   exact ⟨rfl, ht'.out⟩
  ·have q : w.cell? ⟨2, 13, none⟩ = some (.string ⟨#[105, 113, 100]⟩) := hK 13 (by omega)
   have hc := Any.strings_Trim_one Tryz.lays160 ⟨#[105, 113, 100]⟩ 45 (by decide) w (by decide)
   rw [show Lib.trimB (⟨#[105, 113, 100]⟩ : ByteArray).data.toList 45 = [105, 113, 100] by decide] at hc
   have hc' := hZ hc
   clear hK hc
   go_enter Tryz.func45, Tryz.ntmps45
   go_wp2_with fail
   refine hc'.out.mono ?_
   rintro e w1 ⟨rfl, hw⟩
   have ht : Turned (fun _ => False) w w1 := by
    rcases hw with rfl | rfl
    ·exact Turned.refl _ _
    ·exact (Turned.refl _ _).drew
   have ht' := hZ ht
   clear hw ht
   go_wp2_with fail
   go_ret2
   exact ⟨rfl, ht'.out⟩
  ·have q : w.cell? ⟨2, 14, none⟩ = some (.string ⟨#[110]⟩) := hK 14 (by omega)
   have hc := Any.strings_Trim_one Tryz.lays160 ⟨#[110]⟩ 45 (by decide) w (by decide)
   rw [show Lib.trimB (⟨#[110]⟩ : ByteArray).data.toList 45 = [110] by decide] at hc
   have hc' := hZ hc
   clear hK hc
   go_enter Tryz.func45, Tryz.ntmps45
   go_wp2_with fail
   refine hc'.out.mono ?_
   rintro e w1 ⟨rfl, hw⟩
   have ht : Turned (fun _ => False) w w1 := by
    rcases hw with rfl | rfl
    ·exact Turned.refl _ _
    ·exact (Turned.refl _ _).drew
   have ht' := hZ ht
   clear hw ht
   go_wp2_with fail
   go_ret2
   exact ⟨rfl, ht'.out⟩
  ·have q : w.cell? ⟨2, 15, none⟩ = some (.string ⟨#[105]⟩) := hK 15 (by omega)
   have hc := Any.strings_Trim_one Tryz.lays160 ⟨#[105]⟩ 45 (by decide) w (by decide)
   rw [show Lib.trimB (⟨#[105]⟩ : ByteArray).data.toList 45 = [105] by decide] at hc
   have hc' := hZ hc
   clear hK hc
   go_enter Tryz.func45, Tryz.ntmps45
   go_wp2_with fail
   refine hc'.out.mono ?_
   rintro e w1 ⟨rfl, hw⟩
   have ht : Turned (fun _ => False) w w1 := by
    rcases hw with rfl | rfl
    ·exact Turned.refl _ _
    ·exact (Turned.refl _ _).drew
   have ht' := hZ ht
   clear hw ht
   go_wp2_with fail
   go_ret2
   exact ⟨rfl, ht'.out⟩
theorem fields_some {k : Int} {f : List Nat} (h : fieldsK k = some f) : fieldsV k = .tuple #[.string (fBA f), .bool true] := by unfold fieldsV; rw [h]
theorem fields_none {k : Int} (h : fieldsK k = none) : fieldsV k = .tuple #[.string ⟨#[]⟩, .bool false] := by unfold fieldsV; rw [h]

theorem textT : EltT Tryz.prog 26 9 1 16 (.string ⟨#[]⟩) := ⟨Tryz.underlying26, by kernel_rfl, rfl, by omega⟩
theorem partT : EltT Tryz.prog 25 62 2 24 (.agg #[.string ⟨#[]⟩, .int .i64 0]) := ⟨Tryz.underlying25, by kernel_rfl, rfl, by omega⟩
theorem OwnE.slT {w : World} {T : TypeId} {A : Option Addr} {n c : Nat} {l : List (List UInt8)} (h : OwnE w T 1 A n c (textC l)) : SlT w ⟨A, n, c⟩ l := by
 have hl := h.len
 rw [textC_length, Nat.mul_one] at hl
 refine ⟨by have := h.celR; rw [Nat.mul_one] at this; exact this, hl, fun e => ?_, h.max.1, h.max.2⟩
 rcases h.row_or with ⟨_, e2, e3, _⟩ | ⟨g, e1, hr⟩
 ·exact ⟨e2, e3⟩
 ·simp only at e; rw [e1] at e; cases e
theorem OwnE.slQ {w : World} {T : TypeId} {A : Option Addr} {n c : Nat} {l : List (List UInt8 × Int)} (h : OwnE w T 2 A n c (partC l)) : SlQ w ⟨A, n, c⟩ l := by
 have hl := h.len
 rw [partC_length] at hl
 refine ⟨h.celR, by show l.length = n; omega, fun e => ?_, h.max.1, h.max.2⟩
 rcases h.row_or with ⟨_, e2, e3, _⟩ | ⟨g, e1, hr⟩
 ·exact ⟨e2, e3⟩
 ·simp only at e; rw [e1] at e; cases e
theorem contains_any (b off n c : Nat) (l : List (List UInt8)) (x : List UInt8) (w : World) (hl : n ≤ l.length) (hn : n ≤ 9223372036854775807) (hc : ∀ j, j < l.length → w.cell? ⟨b, off + j, none⟩ = some (strV (l.getD j []))) :
  Calls Tryz.prog 50 #[.slice (some ⟨b, off, none⟩) n c, strV x] w (RetSame (.bool ((l.take n).contains x)) w) := by
 have h := Any.slices_Contains_string Tryz.lays110 b off n c (l.map baOf) (baOf x) w (by simpa using hl) hn (fun j hj => by
  rw [getD_baOf]
  exact hc j (by simpa using hj))
 rw [containsS_map] at h
 exact h.mono (fun e w' ⟨h1, h2⟩ => ⟨h1, h2.symm⟩)
theorem contains_none (A : Option Addr) (c : Nat) (x : List UInt8) (w : World) : Calls Tryz.prog 50 #[.slice A 0 c, strV x] w (RetSame (.bool false) w) :=
 (Any.slices_Contains_string_empty Tryz.lays110 A c (baOf x) w).mono (fun e w' ⟨h1, h2⟩ => ⟨h1, h2.symm⟩)
theorem code_right_any (x : List UInt8) (w : World) (h : strOk x) : Calls Tryz.prog 47 #[strV x] w (BoolNew (codeL x) w) := right_any (baOf x) w (by
 show x.toArray.size ≤ _
 unfold strOk at h
 simpa using h)
def UnlRel (l : List (List UInt8)) (n : Nat) (w : World) (i : Value) (wr : World) : Prop := ∃ j : Nat, j ≤ n ∧ i = .int .i64 j ∧ unlikeTo l j = true ∧ Turned (fun _ => False) w wr
set_option maxRecDepth 100000 in
set_option maxHeartbeats 1000000 in
theorem unlike_any (s : Sl) (l : List (List UInt8)) (w : World) (h : SlT w s l) (hok : ∀ x ∈ l, strOk x) : Calls Tryz.prog 49 #[.slice s.A s.n s.c] w (BoolNew (unlikeB l) w) := by
 obtain ⟨A, n, c⟩ := s
 have hle := h.le
 have hmx := h.max
 have hl := h.len
 simp only at hle hmx hl ⊢
 unfold maxLen at hmx
 have h' := hZ h
 have hl' := hZ hl
 clear h hl
 go_enter Tryz.func49, Tryz.ntmps49
 go_wp2_with fail
 go_loopw [7] (fun i wr => UnlRel l n w i wr) (fun i _ => n - (intOf i).toNat)
 case atStart => exact ⟨0, by omega, rfl, rfl, Turned.refl _ _⟩
 case round =>
  obtain ⟨j, hj, rfl, hu, hT⟩ := hrel
  have hT' := hZ hT
  have hu' := hZ hu
  clear hT hu
  by_cases hlt : j < n
  ·have hji : (j : Int) < (n : Int) := by omega
   obtain ⟨b, off, hA, hcell⟩ := (h'.out.fresh hT'.out).cells (show 0 < n by omega)
   simp only at hA
   subst hA
   have q := hcell j hlt
   have hxo : strOk (l.getD j []) := by
    rw [List.getD_eq_getElem?_getD, List.getElem?_eq_getElem (by rw [hl'.out]; exact hlt)]
    exact hok _ (List.getElem_mem _)
   have hR := hZ (code_right_any (l.getD j []) wr hxo)
   have hC := hZ (fun (w2 : World) (t2 : Turned (fun _ => False) wr w2) => contains_any b off j c l (l.getD j []) w2 (by rw [hl'.out]; omega) (by omega) (fun i hi => cell_turned t2 (hcell i (by rw [hl'.out] at hi; exact hi)) (fun e => e)))
   have hno := hZ (fun e => unlike_no (l := l) (j := j) (by rw [hl'.out]; exact hlt) e)
   have hsu := hZ (unlikeTo_succ l j)
   clear hcell hxo
   generalize (l.take j).contains (l.getD j []) = ct at hC hno hsu
   generalize codeL (l.getD j []) = cr at hR hno hsu
   generalize hx : l.getD j [] = x at *
   unfold strV at q hC hR
   have hjc : (j : Int) ≤ (c : Int) := by omega
   have hj0 : (0 : Int) ≤ (j : Int) := by omega
   cases cr with
   | false =>
    go_wp2_with fail
    refine hR.out.mono ?_
    rintro e w2 ⟨rfl, t2⟩
    have F := hZ (hT'.out.and_ t2)
    clear t2
    go_wp2_with fail
    go_ret
    exact ⟨ret_bool (hno.out rfl).symm, F.out⟩
   | true =>
    cases ct with
    | true =>
     go_wp2_with fail
     refine hR.out.mono ?_
     rintro e w2 ⟨rfl, t2⟩
     have F := hZ (hT'.out.and_ t2)
     have hC2 := hZ (hC.out w2 t2)
     clear t2 hC
     go_wp2_with fail
     refine hC2.out.mono ?_
     rintro e w3 ⟨rfl, rfl⟩
     go_wp2_with fail
     go_ret
     exact ⟨ret_bool (hno.out rfl).symm, F.out⟩
    | false =>
     go_wp2_with fail
     refine hR.out.mono ?_
     rintro e w2 ⟨rfl, t2⟩
     have F := hZ (hT'.out.and_ t2)
     have hC2 := hZ (hC.out w2 t2)
     clear t2 hC
     go_wp2_with fail
     refine hC2.out.mono ?_
     rintro e w3 ⟨rfl, rfl⟩
     go_wp2_with fail
     go_roundw
     case rel =>
      first
      | exact ⟨j + 1, by omega, by go_num, by rw [hsu.out, hu'.out]; rfl, F.out⟩
      | ((repeat apply Exists.intro); exact ⟨⟨j + 1, by omega, by go_num, by rw [hsu.out, hu'.out]; rfl, F.out⟩, rfl⟩)
     case measure => simp [intOf]; omega
  ·have hjn : j = n := by omega
   have hge : (n : Int) ≤ (j : Int) := by omega
   have hF := hZ (show unlikeB l = true from by
    have := hu'.out
    rw [hjn, ← hl'.out] at this
    exact this)
   clear hjn
   go_wp2_with fail
   go_ret
   exact ⟨ret_bool hF.out.symm, hT'.out⟩
theorem news_new1 (w : World) (T : TypeId) (v : Value) : ∀ j u, ([v] : List Value)[j]? = some u → (w.alloc (.cells #[v] T)).cell? ((⟨w.heap.size, 0, none⟩ : Addr).add j) = some u := by
 intro j u hu
 rw [Addr.add_mid, Nat.zero_add, (Blk.new w T #[v]).cell]
 simpa using hu
def PtdRel (l : List (List UInt8 × Int)) (n : Nat) (w : World) (v i : Value) (wr : World) : Prop :=
 ∃ (j : Nat) (A : Option Addr) (c : Nat), j ≤ n ∧ i = .int .i64 j ∧ v = .slice A j c ∧ OwnE wr 9 1 A j c (textC ((l.take j).map Prod.fst)) ∧ (∀ g, A = some ⟨g, 0, none⟩ → w.heap.size ≤ g) ∧ ((l.take j).all fun p => withinB p.2 1 1073741824) = true ∧ Turned (fun _ => False) w wr
theorem take_snocD (l : List (List UInt8 × Int)) (j : Nat) (h : j < l.length) : l.take (j + 1) = l.take j ++ [(itemAt l j, qtyAt l j)] := by
 rw [List.take_succ_eq_append_getElem h]
 have e : l[j] = (itemAt l j, qtyAt l j) := by simp [itemAt, qtyAt, h]
 rw [e]
set_option maxRecDepth 100000 in
set_option maxHeartbeats 2000000 in
theorem parted_any (s : Sl) (l : List (List UInt8 × Int)) (w : World) (h : SlQ w s l) (hok : ∀ p ∈ l, strOk p.1) (hn : s.n ≤ 1000000) : Calls Tryz.prog 48 #[.slice s.A s.n s.c] w (BoolNew (partsB l) w) := by
 obtain ⟨A, n, c⟩ := s
 have hle := h.le
 have hmx := h.max
 have hl := h.len
 simp only at hle hmx hl hn ⊢
 unfold maxLen at hmx
 have h' := hZ h
 have hl' := hZ hl
 clear h hl
 go_enter Tryz.func48, Tryz.ntmps48
 go_wp2_with fail
 go_loopw [3, 8] (fun v i wr => PtdRel l n w v i wr) (fun _ i _ => n - (intOf i).toNat)
 case atStart => exact ⟨0, none, 0, by omega, rfl, rfl, OwnE.nil _ _ _, (fun g e => by cases e), rfl, Turned.refl _ _⟩
 case round =>
  obtain ⟨j, A2, c2, hj, rfl, rfl, ho, hg, ha, hT⟩ := hrel
  have hT' := hZ hT
  have ha' := hZ ha
  have ho' := hZ ho
  have hg' := hZ hg
  clear hT ha ho hg
  by_cases hlt : j < n
  ·have hji : (j : Int) < (n : Int) := by omega
   obtain ⟨b, off, hA, hcell⟩ := (h'.out.fresh hT'.out).cells (show 0 < n by omega)
   simp only at hA
   subst hA
   obtain ⟨q0, q1⟩ := hcell j hlt
   have hsn := hZ (take_snocD l j (by rw [hl'.out]; exact hlt))
   have hno := hZ (show withinB (qtyAt l j) 1 1073741824 = false → partsB l = false from fun e => by
    cases hp : partsB l with
    | false => rfl
    | true =>
     exfalso
     unfold partsB at hp
     simp only [zD] at hp
     have := List.all_eq_true.1 hp.1 ((l.getD j ([], 0))) (by
      rw [List.getD_eq_getElem?_getD, List.getElem?_eq_getElem (by rw [hl'.out]; exact hlt)]
      exact List.getElem_mem _)
     rw [show (l.getD j ([], 0)).2 = qtyAt l j from rfl, e] at this
     cases this)
   clear hcell
   unfold strV at q0
   generalize qtyAt l j = qv at *
   generalize itemAt l j = iv at *
   have hW := hZ (fun w2 => within_any qv 1 1073741824 w2)
   cases hwi : withinB qv 1 1073741824 with
   | false =>
    rw [hwi] at hW
    have F := hZ (hno.out hwi)
    clear hwi
    go_wp2_with fail
    refine (hW.out _).mono ?_
    rintro e w2 ⟨rfl, rfl⟩
    go_wp2_with fail
    go_ret
    exact ⟨ret_bool F.out.symm, hT'.out.alloc _⟩
   | true =>
    rw [hwi] at hW
    have hwi' := hZ hwi
    clear hwi
    go_wp2_with fail
    refine (hW.out _).mono ?_
    rintro e w2 ⟨rfl, hw2⟩
    have hB := Blk.new wr 62 #[.string ⟨iv.toArray⟩, .int .i64 qv]
    have T2 := hZ (hT'.out.alloc (.cells #[.string ⟨iv.toArray⟩, .int .i64 qv] 62))
    have O2 := hZ (ho'.out.fresh ((Turned.refl (fun _ => False) wr).alloc (.cells #[.string ⟨iv.toArray⟩, .int .i64 qv] 62)))
    have k0 := hB.cell 0
    rw [hw2] at T2 O2
    rw [hw2] at k0
    generalize wr.heap.size = bp at *
    clear hB ho' hw2
    change w2.cell? ⟨bp, 0, none⟩ = some (.string ⟨iv.toArray⟩) at k0
    go_wp2_with (at_builtin; refine wpList_appE textT rfl (.tmp 16) (.tmp 19) rfl (O2.out.fresh ((Turned.refl (fun _ => False) _).alloc _)) ⟨w2.heap.size, 0, none⟩ 1 1 [.string ⟨iv.toArray⟩] rfl (news_new1 w2 _ _) (by simp [Value.oneCell']) (by omega) (by unfold maxLen; omega) (by omega) rfl rfl ?_; intro A4 c4 w4 ho4 hor4)
    have hm4 := hor4.mine (T2.out.alloc _) (fun g e => hg'.out g e)
    have hO4 : OwnE w4 9 1 A4 (j + 1) c4 (textC ((l.take (j + 1)).map Prod.fst)) := by
     rw [hsn.out, List.map_append, textC_append]
     exact ho4
    have ha4 : ((l.take (j + 1)).all fun p => withinB p.2 1 1073741824) = true := by
     rw [hsn.out, List.all_append, ha'.out]
     simp [hwi'.out]
    have R := hZ (show PtdRel l n w (.slice A4 (j + 1) c4) (.int .i64 ((j + 1 : Nat) : Int)) w4 from ⟨j + 1, A4, c4, by omega, rfl, rfl, hO4, hm4.2, ha4, hm4.1⟩)
    clear hm4 hO4 ha4 ho4 hor4
    go_roundw
    case rel =>
     first
     | exact R.out
     | ((repeat apply Exists.intro); exact ⟨R.out, rfl⟩)
    case measure => simp [intOf]; omega
  ·have hjn : j = n := by omega
   have hge : (n : Int) ≤ (j : Int) := by omega
   have hlj : l.take j = l := List.take_of_length_le (by rw [hl'.out]; omega)
   have hsl := hZ (show SlT wr ⟨A2, j, c2⟩ (l.map Prod.fst) from by have := ho'.out.slT; rw [hlj] at this; exact this)
   have hall := hZ (show (l.all fun p => withinB p.2 1 1073741824) = true from by have := ha'.out; rw [hlj] at this; exact this)
   have hU := hZ (unlike_any ⟨A2, j, c2⟩ (l.map Prod.fst) wr hsl.out (fun x hx => by
    obtain ⟨p, hp, rfl⟩ := List.mem_map.1 hx
    exact hok p hp))
   have hE := hZ (show partsB l = (decide (0 < n) && (decide (n ≤ 8) && unlikeB (l.map Prod.fst))) from by unfold partsB; rw [hall.out, hl'.out]; simp)
   clear hlj
   subst hjn
   by_cases h0 : j = 0
   ·subst h0
    go_wp2_with fail
    go_ret
    exact ⟨ret_bool (by rw [hE.out]; rfl), hT'.out⟩
   ·by_cases h8 : j ≤ 8
    ·have h0i : (0 : Int) < (j : Int) := by omega
     have h8i : (j : Int) ≤ 8 := by omega
     go_wp2_with fail
     refine hU.out.mono ?_
     rintro e w2 ⟨rfl, t2⟩
     have F := hZ (hT'.out.and_ t2)
     clear t2
     go_wp2_with fail
     go_ret
     refine ⟨ret_bool ?_, F.out⟩
     rw [hE.out, decide_eq_true (show 0 < j by omega), decide_eq_true h8]
     rfl
    ·have h0i : (0 : Int) < (j : Int) := by omega
     have h8i : (8 : Int) < (j : Int) := by omega
     go_wp2_with fail
     go_ret
     refine ⟨ret_bool ?_, hT'.out⟩
     rw [hE.out, decide_eq_false h8]
     simp
end Go.Proofs.YtglojnmcbochaaaGreatDoor

