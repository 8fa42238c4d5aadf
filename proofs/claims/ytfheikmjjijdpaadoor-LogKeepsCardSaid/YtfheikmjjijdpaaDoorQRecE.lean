/-
  ytfheikmjjijdpaadoor: laws and walks on the road to LogKeeps, joined: Shf RecE. Conditions stand at each theorem.
-/
import Derived.Shelf.LaysM
import Derived.Shelf.Bytes.GrowSliceCatch
import Derived.Shelf.Bytes.GrowSlice
import Derived.Shelf.Bytes.LenAt
import Derived.Shelf.Bytes.TryGrowAt
import Derived.Shelf.Bytes.GrowRow0At
import Derived.Shelf.Bytes.GrowRowAt
import Derived.Shelf.Bytes.GrowNilAt
import Derived.Shelf.Bytes.GrowAt
import Derived.Shelf.Bytes.WriteByteAt
import Derived.Shelf.Bytes.WriteAt
import Derived.Ground.SlbCloneProg
import Derived.Shelf.Bytes.SlClone
import Derived.Ground.SlgnProg
import Derived.Shelf.SlicesG.SearchI
import Derived.Test.YtfheikmjjijdpaaDoorProg
import Derived.Test.YtfheikmjjijdpaaDoorQRecB
import Derived.Lib.OthersKept
namespace Go.Proofs
open Go.Shelf
def Tryd.laysM251_ren : Go.Shelf.Ren := ⟨fun | 251 => 56 | n => n, fun | 130 => 118 | 3 => 3 | 4 => 4 | 0 => 0 | 93 => 86 | 37 => 33 | 91 => 84 | 5 => 5 | n => n, fun | n => n⟩
theorem Tryd.laysM251 : Go.Proofs.LaysM.n251 Tryd.prog Tryd.laysM251_ren := {
  mixed := by kernel_rfl
  f251 := Tryd.func56.trans (congrArg some (by kernel_rfl))
  t0 := Tryd.underlying0
  a0 := Tryd.isAgg0
  z0 := Tryd.sizeOf0
  v0 := Tryd.zeroValue0
  t3 := Tryd.underlying3
  a3 := Tryd.isAgg3
  z3 := Tryd.sizeOf3
  v3 := Tryd.zeroValue3
  t4 := Tryd.underlying4
  a4 := Tryd.isAgg4
  z4 := Tryd.sizeOf4
  v4 := Tryd.zeroValue4
  t37 := Tryd.underlying33
  a37 := Tryd.isAgg33
  z37 := Tryd.sizeOf33
  v37 := Tryd.zeroValue33
  t93 := Tryd.underlying86
  a93 := Tryd.isAgg86
  z93 := Tryd.sizeOf86
  v93 := Tryd.zeroValue86
  t130 := Tryd.underlying118
  a130 := Tryd.isAgg118
  z130 := Tryd.sizeOf118
  v130 := Tryd.zeroValue118
  t5 := Tryd.underlying5
  a5 := Tryd.isAgg5
  z5 := Tryd.sizeOf5
  v5 := Tryd.zeroValue5
  t91 := Tryd.underlying84
  a91 := Tryd.isAgg84
  z91 := Tryd.sizeOf84
  v91 := Tryd.zeroValue84
  i0 := by kernel_rfl
  i3 := by kernel_rfl
  i4 := by kernel_rfl
  i5 := by kernel_rfl
  i37 := by kernel_rfl
  i91 := by kernel_rfl
  i93 := by kernel_rfl
  i130 := by kernel_rfl }
def Tryd.laysM179_ren : Go.Shelf.Ren := ⟨fun | 179 => 58 | 251 => 56 | 252 => 57 | 181 => 78 | 184 => 79 | 290 => 80 | 324 => 84 | n => n, fun | 130 => 118 | 5 => 5 | 75 => 90 | 0 => 0 | 93 => 86 | 91 => 84 | 3 => 3 | 131 => 106 | 4 => 4 | 37 => 33 | 20 => 20 | 80 => 145 | 9 => 9 | n => n, fun | 14 => 0 | n => n⟩
theorem Tryd.laysM179 : Go.Proofs.LaysM.n179 Tryd.prog Tryd.laysM179_ren := {
  mixed := by kernel_rfl
  f179 := Tryd.func58.trans (congrArg some (by kernel_rfl))
  f181 := Tryd.func78.trans (congrArg some (by kernel_rfl))
  f184 := Tryd.func79.trans (congrArg some (by kernel_rfl))
  f251 := Tryd.func56.trans (congrArg some (by kernel_rfl))
  f252 := Tryd.func57.trans (congrArg some (by kernel_rfl))
  f290 := Tryd.func80.trans (congrArg some (by kernel_rfl))
  f324 := Tryd.func84.trans (congrArg some (by kernel_rfl))
  t0 := Tryd.underlying0
  a0 := Tryd.isAgg0
  z0 := Tryd.sizeOf0
  v0 := Tryd.zeroValue0
  t3 := Tryd.underlying3
  a3 := Tryd.isAgg3
  z3 := Tryd.sizeOf3
  v3 := Tryd.zeroValue3
  t4 := Tryd.underlying4
  a4 := Tryd.isAgg4
  z4 := Tryd.sizeOf4
  v4 := Tryd.zeroValue4
  t5 := Tryd.underlying5
  a5 := Tryd.isAgg5
  z5 := Tryd.sizeOf5
  v5 := Tryd.zeroValue5
  t20 := Tryd.underlying20
  a20 := Tryd.isAgg20
  z20 := Tryd.sizeOf20
  v20 := Tryd.zeroValue20
  t37 := Tryd.underlying33
  a37 := Tryd.isAgg33
  z37 := Tryd.sizeOf33
  v37 := Tryd.zeroValue33
  t75 := Tryd.underlying90
  a75 := Tryd.isAgg90
  z75 := Tryd.sizeOf90
  v75 := Tryd.zeroValue90
  t91 := Tryd.underlying84
  a91 := Tryd.isAgg84
  z91 := Tryd.sizeOf84
  v91 := Tryd.zeroValue84
  t93 := Tryd.underlying86
  a93 := Tryd.isAgg86
  z93 := Tryd.sizeOf86
  v93 := Tryd.zeroValue86
  t130 := Tryd.underlying118
  a130 := Tryd.isAgg118
  z130 := Tryd.sizeOf118
  v130 := Tryd.zeroValue118
  t131 := Tryd.underlying106
  a131 := Tryd.isAgg106
  z131 := Tryd.sizeOf106
  v131 := Tryd.zeroValue106
  g14 := by kernel_rfl
  t9 := Tryd.underlying9
  a9 := Tryd.isAgg9
  z9 := Tryd.sizeOf9
  v9 := Tryd.zeroValue9
  t80 := Tryd.underlying145
  a80 := Tryd.isAgg145
  z80 := Tryd.sizeOf145
  v80 := Tryd.zeroValue145
  i0 := by kernel_rfl
  i3 := by kernel_rfl
  i4 := by kernel_rfl
  i5 := by kernel_rfl
  i9 := by kernel_rfl
  i20 := by kernel_rfl
  i37 := by kernel_rfl
  i75 := by kernel_rfl
  i80 := by kernel_rfl
  i91 := by kernel_rfl
  i93 := by kernel_rfl
  i130 := by kernel_rfl
  i131 := by kernel_rfl
  m14 := by kernel_rfl }
def Tryd.laysM180_ren : Go.Shelf.Ren := ⟨fun | 180 => 36 | 251 => 56 | 252 => 57 | 181 => 78 | 184 => 79 | 290 => 80 | 324 => 84 | n => n, fun | 130 => 118 | 37 => 33 | 3 => 3 | 75 => 90 | 0 => 0 | 93 => 86 | 91 => 84 | 131 => 106 | 4 => 4 | 20 => 20 | 5 => 5 | 80 => 145 | 9 => 9 | n => n, fun | 14 => 0 | n => n⟩
theorem Tryd.laysM180 : Go.Proofs.LaysM.n180 Tryd.prog Tryd.laysM180_ren := {
  mixed := by kernel_rfl
  f180 := Tryd.func36.trans (congrArg some (by kernel_rfl))
  f181 := Tryd.func78.trans (congrArg some (by kernel_rfl))
  f184 := Tryd.func79.trans (congrArg some (by kernel_rfl))
  f251 := Tryd.func56.trans (congrArg some (by kernel_rfl))
  f252 := Tryd.func57.trans (congrArg some (by kernel_rfl))
  f290 := Tryd.func80.trans (congrArg some (by kernel_rfl))
  f324 := Tryd.func84.trans (congrArg some (by kernel_rfl))
  t0 := Tryd.underlying0
  a0 := Tryd.isAgg0
  z0 := Tryd.sizeOf0
  v0 := Tryd.zeroValue0
  t3 := Tryd.underlying3
  a3 := Tryd.isAgg3
  z3 := Tryd.sizeOf3
  v3 := Tryd.zeroValue3
  t4 := Tryd.underlying4
  a4 := Tryd.isAgg4
  z4 := Tryd.sizeOf4
  v4 := Tryd.zeroValue4
  t20 := Tryd.underlying20
  a20 := Tryd.isAgg20
  z20 := Tryd.sizeOf20
  v20 := Tryd.zeroValue20
  t37 := Tryd.underlying33
  a37 := Tryd.isAgg33
  z37 := Tryd.sizeOf33
  v37 := Tryd.zeroValue33
  t75 := Tryd.underlying90
  a75 := Tryd.isAgg90
  z75 := Tryd.sizeOf90
  v75 := Tryd.zeroValue90
  t91 := Tryd.underlying84
  a91 := Tryd.isAgg84
  z91 := Tryd.sizeOf84
  v91 := Tryd.zeroValue84
  t93 := Tryd.underlying86
  a93 := Tryd.isAgg86
  z93 := Tryd.sizeOf86
  v93 := Tryd.zeroValue86
  t130 := Tryd.underlying118
  a130 := Tryd.isAgg118
  z130 := Tryd.sizeOf118
  v130 := Tryd.zeroValue118
  t131 := Tryd.underlying106
  a131 := Tryd.isAgg106
  z131 := Tryd.sizeOf106
  v131 := Tryd.zeroValue106
  g14 := by kernel_rfl
  t5 := Tryd.underlying5
  a5 := Tryd.isAgg5
  z5 := Tryd.sizeOf5
  v5 := Tryd.zeroValue5
  t9 := Tryd.underlying9
  a9 := Tryd.isAgg9
  z9 := Tryd.sizeOf9
  v9 := Tryd.zeroValue9
  t80 := Tryd.underlying145
  a80 := Tryd.isAgg145
  z80 := Tryd.sizeOf145
  v80 := Tryd.zeroValue145
  i0 := by kernel_rfl
  i3 := by kernel_rfl
  i4 := by kernel_rfl
  i5 := by kernel_rfl
  i9 := by kernel_rfl
  i20 := by kernel_rfl
  i37 := by kernel_rfl
  i75 := by kernel_rfl
  i80 := by kernel_rfl
  i91 := by kernel_rfl
  i93 := by kernel_rfl
  i130 := by kernel_rfl
  i131 := by kernel_rfl
  m14 := by kernel_rfl }
def Tryd.laysSlK4_ren : Go.Shelf.Ren := ⟨fun | 4 => 40 | n => n, fun | 22 => 33 | 4 => 4 | 5 => 5 | n => n, fun | n => n⟩
theorem Tryd.laysSlK4 : Go.Proofs.SlLaysK.n4 Tryd.prog Tryd.laysSlK4_ren := {
  mixed := by kernel_rfl
  f4 := Tryd.func40.trans (congrArg some (by kernel_rfl))
  t4 := Tryd.underlying4
  a4 := Tryd.isAgg4
  z4 := Tryd.sizeOf4
  v4 := Tryd.zeroValue4
  t22 := Tryd.underlying33
  a22 := Tryd.isAgg33
  z22 := Tryd.sizeOf33
  v22 := Tryd.zeroValue33
  t5 := Tryd.underlying5
  i5 := by kernel_rfl }
end Go.Proofs

namespace Go.Proofs.YtfheikmjjijdpaaDoor
open Go.RowKit Go.Maps
set_option linter.unusedVariables false
set_option linter.unusedSimpArgs false

def PutB (zs : List Int) (w : World) (e : Ending) (w' : World) : Prop := ∃ A c, e = .returned (.slice A zs.length c) ∧ OwnV w' A zs.length c zs ∧ (∀ g, A = some ⟨g, 0, none⟩ → w.heap.size ≤ g) ∧ Turned (fun _ => False) w w'
/-- An address that leads into a block below r, as it stands, or none. -/
def PlA (r : Nat) (A : Option Addr) : Prop := A = none ∨ ∃ b off, A = some ⟨b, off, none⟩ ∧ b < r
def RdBlk (w : World) (r : Nat) (A : Option Addr) (n c : Nat) (sh : Bool) : Prop := Blk w r 135 #[.slice A n c, .bool sh]
/-- Block r is a reader: none: bytes were wanting. -/
def IsRd (w : World) (r : Nat) : Option (List Int) → Prop
  | none => ∃ A n c, RdBlk w r A n c true ∧ n ≤ maxLen
  | some zs => ∃ A n c, RdBlk w r A n c false ∧ BytS w A n c zs ∧ n ≤ c ∧ c ≤ maxLen ∧ PlA r A
theorem BytR.turned0 {w w' : World} {W : Nat → Prop} {A : Option Addr} {n : Nat} {zs : List Int} (h : BytR w A n zs) (ht : Turned W w w') (hW : 0 < n → ∀ b o, A = some ⟨b, o, none⟩ → ¬ W b) : BytR w' A n zs :=
  ⟨h.len, h.max, fun hn => by
    obtain ⟨b, off, e, hc⟩ := h.cell hn
    exact ⟨b, off, e, fun j hj => cell_turned ht (hc j hj) (hW hn b off e)⟩⟩
theorem BytS.turned0 {w w' : World} {W : Nat → Prop} {A : Option Addr} {n c : Nat} {zs : List Int} (h : BytS w A n c zs) (ht : Turned W w w') (hW : 0 < n → ∀ b o, A = some ⟨b, o, none⟩ → ¬ W b) : BytS w' A n c zs :=
  ⟨h.toBytR.turned0 ht hW, h.nil_⟩
theorem PlA.lt {r : Nat} {A : Option Addr} (h : PlA r A) : ∀ b o, A = some ⟨b, o, none⟩ → b < r := by
  rintro b o rfl
  rcases h with h | ⟨b', o', e, h⟩
  · cases h
  · injection e with e
    injection e with e1
    omega
theorem IsRd.keep {w w' : World} {W : Nat → Prop} {r : Nat} {s : Option (List Int)} (h : IsRd w r s) (ht : Turned W w w') (hW : ∀ i, W i → r < i) : IsRd w' r s := by
  cases s with
  | none =>
    obtain ⟨A, n, c, hb, hn⟩ := h
    exact ⟨A, n, c, hb.turned ht (fun e => by have := hW r e; omega), hn⟩
  | some zs =>
    obtain ⟨A, n, c, hb, hy, h1, h2, h3⟩ := h
    exact ⟨A, n, c, hb.turned ht (fun e => by have := hW r e; omega), hy.turned ht (fun b o e e2 => by have := hW b e2; have := h3.lt b o e; omega), h1, h2, h3⟩
theorem IsRd.fresh {w w' : World} {r : Nat} {s : Option (List Int)} (h : IsRd w r s) (ht : Turned (fun _ => False) w w') : IsRd w' r s := h.keep ht (fun _ e => e.elim)
theorem IsRd.lt {w : World} {r : Nat} {s : Option (List Int)} (h : IsRd w r s) : r < w.heap.size := by
  cases s with
  | none => obtain ⟨A, n, c, hb, _⟩ := h; exact Blk.lt hb
  | some zs => obtain ⟨A, n, c, hb, _⟩ := h; exact Blk.lt hb
theorem BytR.pl {w : World} {A : Option Addr} {n : Nat} {zs : List Int} (h : BytR w A n zs) (hn : 0 < n) : ∃ b off, A = some ⟨b, off, none⟩ := by
  obtain ⟨b, off, e, _⟩ := h.cell hn
  exact ⟨b, off, e⟩
theorem BytR.head {w : World} {A : Option Addr} {n k : Nat} {zs : List Int} (h : BytR w A n zs) (hk : k ≤ n) : BytR w A k (zs.take k) :=
  ⟨by rw [List.length_take, h.len]; omega, Nat.le_trans hk h.max, fun h0 => by
    obtain ⟨b, off, e, hc⟩ := h.cell (by omega)
    refine ⟨b, off, e, fun j hj => ?_⟩
    rw [hc j (by omega)]
    simp only [List.getD_eq_getElem?_getD, List.getElem?_take, if_pos hj]⟩
theorem BytR.tail {w : World} {b off n k : Nat} {zs : List Int} (h : BytR w (some ⟨b, off, none⟩) n zs) (hk : k ≤ n) : BytR w (some ⟨b, off + k, none⟩) (n - k) (zs.drop k) :=
  ⟨by rw [List.length_drop, h.len], by have := h.max; omega, fun h0 => by
    obtain ⟨b2, off2, e, hc⟩ := h.cell (by omega)
    injection e with e
    injection e with e1 e2
    subst e1 e2
    refine ⟨b, off + k, rfl, fun j hj => ?_⟩
    rw [Nat.add_assoc, hc (k + j) (by omega)]
    simp only [List.getD_eq_getElem?_getD, List.getElem?_drop]⟩
theorem BytR.zero (w : World) (A : Option Addr) : BytR w A 0 [] := ⟨rfl, by omega, fun h => absurd h (by omega)⟩

def TakePost (r k : Nat) (s : Option (List Int)) (w : World) (e : Ending) (w' : World) : Prop :=
  ∃ A n c, e = .returned (.slice A n c) ∧ BytS w' A n c (takeS k s).1 ∧ n ≤ c ∧ c ≤ maxLen ∧ PlA r A ∧ IsRd w' r (takeS k s).2 ∧ Turned (· = r) w w'
set_option maxRecDepth 100000 in
theorem take_short (r : Nat) (A : Option Addr) (n c k : Nat) (sh : Bool) (w : World) (hb : RdBlk w r A n c sh) (hn : n ≤ 9223372036854775807) (hk : k ≤ 9223372036854775807) (h : sh = true ∨ n < k) (s : Option (List Int)) (hs : takeS k s = ([], none)) :
    Calls Tryd.prog 72 #[.pointer (some ⟨r, 0, none⟩), .int .i64 k] w (TakePost r k s w) := by
  have q0 : w.cell? ⟨r, 0, none⟩ = some (.slice A n c) := hb.cell 0
  have q1 : w.cell? ⟨r, 1, none⟩ = some (.bool sh) := hb.cell 1
  have f1 := hb.frozen 1
  have hb' := Lib.hid hb
  have hs' := Lib.hid hs
  clear hb hs
  have hfin : TakePost r k s w (.returned (.slice none 0 0)) (w.setCell ⟨r, 1, none⟩ (.bool true)) := by
    refine ⟨none, 0, 0, rfl, ?_, Nat.le_refl _, by unfold maxLen; omega, .inl rfl, ?_, (Turned.refl (· = r) w).setCell (.inl rfl) _⟩
    · rw [hs'.out]; exact ⟨BytR.none_ _, fun _ => ⟨rfl, rfl⟩⟩
    · rw [hs'.out]; exact ⟨A, n, c, hb'.out.set_ 1 _, by unfold maxLen; omega⟩
  have hfin' := Lib.hid hfin
  clear hfin
  cases sh with
  | true =>
    clear h
    go_enter Tryd.func72, Tryd.ntmps72
    go_wp2
    go_ret
    exact hfin'.out
  | false =>
    have hlt : n < k := by simpa using h
    have hi : (n : Int) < (k : Int) := by omega
    clear h
    go_enter Tryd.func72, Tryd.ntmps72
    go_wp2
    go_ret
    exact hfin'.out
set_option maxRecDepth 100000 in
theorem take_ok (r : Nat) (A : Option Addr) (n c k : Nat) (zs : List Int) (w : World) (hb : RdBlk w r A n c false) (hy : BytS w A n c zs) (hnc : n ≤ c) (hc : c ≤ maxLen) (hp : PlA r A) (hk : k ≤ n) :
    Calls Tryd.prog 72 #[.pointer (some ⟨r, 0, none⟩), .int .i64 k] w (TakePost r k (some zs) w) := by
  have hcm := hc
  unfold maxLen at hcm
  have hln := hy.len
  have hts := takeS_some (n := k) (zs := zs) (by omega)
  have q0 : w.cell? ⟨r, 0, none⟩ = some (.slice A n c) := hb.cell 0
  have q1 : w.cell? ⟨r, 1, none⟩ = some (.bool false) := hb.cell 1
  have f1 := hb.frozen 1
  have f0 := hb.frozen 0
  have hki : (k : Int) ≤ (n : Int) := by omega
  have hkc : (k : Int) ≤ (c : Int) := by omega
  have hnci : (n : Int) ≤ (c : Int) := by omega
  have T1 := (Turned.refl (· = r) w).setCell (p := ⟨r, 1, none⟩) (.inl rfl) (.bool false)
  have hb' := Lib.hid hb
  have hy' := Lib.hid hy
  have hts' := Lib.hid hts
  have hp' := Lib.hid hp
  clear hb hy hts
  have hfin : ∀ v A' n' c', v = .slice A' n' c' → BytS w A' n' c' (zs.drop k) → n' ≤ c' → c' ≤ maxLen → PlA r A' → TakePost r k (some zs) w (.returned (.slice A k c)) ((w.setCell ⟨r, 1, none⟩ (.bool false)).setCell ⟨r, 0, none⟩ v) := by
    rintro v A' n' c' rfl h1 h2 h3 h4
    have T2 := T1.setCell (p := ⟨r, 0, none⟩) (.inl rfl) (.slice A' n' c')
    refine ⟨A, k, c, rfl, ?_, by omega, hc, hp'.out, ?_, T2⟩
    · rw [hts'.out]
      exact ⟨(hy'.out.toBytR.head hk).turned0 T2 (fun h0 b o e e2 => by have := hp'.out.lt b o e; omega), fun e => by have := hy'.out.nil_ e; omega⟩
    · rw [hts'.out]
      exact ⟨A', n', c', (hb'.out.set_ 1 _).set_ 0 _, h1.turned0 T2 (fun h0 b o e e2 => by have := h4.lt b o e; omega), h2, h3, h4⟩
  have hfin' := Lib.hid hfin
  clear hfin T1
  rcases hp with rfl | ⟨b, off, rfl, hbr⟩
  · obtain ⟨h0, h0c⟩ := hy'.out.nil_ rfl
    subst h0 h0c
    obtain rfl : k = 0 := by omega
    have hz : zs = [] := List.length_eq_zero_iff.1 hln
    have hF := Lib.hid (hfin'.out _ none 0 0 rfl (by rw [hz]; exact ⟨BytR.none_ _, fun _ => ⟨rfl, rfl⟩⟩) (Nat.le_refl _) (by unfold maxLen; omega) (.inl rfl))
    clear hfin'
    go_enter Tryd.func72, Tryd.ntmps72
    go_wp2
    go_ret
    exact hF.out
  · by_cases hck : c = k
    · subst hck
      obtain rfl : n = c := by omega
      have hz : zs.drop n = [] := by rw [List.drop_eq_nil_iff]; omega
      have hF := Lib.hid (hfin'.out _ (some ⟨b, off, none⟩) 0 0 rfl (by rw [hz]; exact ⟨BytR.zero _ _, fun e => by cases e⟩) (Nat.le_refl _) (by unfold maxLen; omega) (.inr ⟨b, off, rfl, hbr⟩))
      clear hfin'
      go_enter Tryd.func72, Tryd.ntmps72
      go_wp2
      go_ret
      exact hF.out
    · have hc4 : ¬ (k = c) := by omega
      have hc5 : k < c := by omega
      have hc2 : ((k : Int) == (c : Int)) = false := by rw [beq_eq_false_iff_ne]; omega
      have hF := Lib.hid (hfin'.out _ (some ⟨b, off + k, none⟩) (n - k) (c - k) rfl ⟨hy'.out.toBytR.tail hk, fun e => by cases e⟩ (by omega) (by omega) (.inr ⟨b, off + k, rfl, hbr⟩))
      clear hfin'
      go_enter Tryd.func72, Tryd.ntmps72
      go_wp2
      go_ret
      exact hF.out
theorem take_any (r k : Nat) (s : Option (List Int)) (w : World) (h : IsRd w r s) (hk : k ≤ 9223372036854775807) : Calls Tryd.prog 72 #[.pointer (some ⟨r, 0, none⟩), .int .i64 k] w (TakePost r k s w) := by
  cases s with
  | none =>
    obtain ⟨A, n, c, hb, hn⟩ := h
    exact take_short r A n c k true w hb (by unfold maxLen at hn; omega) hk (.inl rfl) none rfl
  | some zs =>
    obtain ⟨A, n, c, hb, hy, hnc, hc, hp⟩ := h
    rcases Nat.lt_or_ge n k with hlt | hge
    · exact take_short r A n c k false w hb (by unfold maxLen at hc; omega) hk (.inr hlt) (some zs) (takeS_short (by rw [hy.len]; exact hlt))
    · exact take_ok r A n c k zs w hb hy hnc hc hp hge
/-! number -/
def NumSPost (r k : Nat) (s : Option (List Int)) (w : World) (e : Ending) (w' : World) : Prop := e = .returned (.int .i64 (numS k s).1) ∧ IsRd w' r (numS k s).2 ∧ Turned (· = r) w w'
theorem takeS_len (k : Nat) (s : Option (List Int)) : (takeS k s).1.length ≤ k := by
  cases s with
  | none => exact Nat.zero_le _
  | some zs =>
    rcases Nat.lt_or_ge zs.length k with h | h
    · rw [takeS_short h]; exact Nat.zero_le _
    · rw [takeS_some h, List.length_take]; omega
theorem takeS_byte {k : Nat} {s : Option (List Int)} (h : ∀ ys, s = some ys → ∀ y ∈ ys, isByte y) : ∀ y ∈ (takeS k s).1, isByte y := by
  cases s with
  | none => intro y hy; cases hy
  | some zs =>
    rcases Nat.lt_or_ge zs.length k with hl | hl
    · rw [takeS_short hl]; intro y hy; cases hy
    · rw [takeS_some hl]; intro y hy; exact h zs rfl y (List.mem_of_mem_take hy)
set_option maxRecDepth 100000 in
set_option maxHeartbeats 1000000 in
theorem number_by (r k : Nat) (s : Option (List Int)) (w : World) (hT : Calls Tryd.prog 72 #[.pointer (some ⟨r, 0, none⟩), .int .i64 k] w (TakePost r k s w)) (hk : k ≤ 8) (hs : ∀ ys, s = some ys → ∀ y ∈ ys, isByte y) :
    Calls Tryd.prog 71 #[.pointer (some ⟨r, 0, none⟩), .int .i64 k] w (NumSPost r k s w) := by
  have hT' := Lib.hid hT
  have hll := takeS_len k s
  have hbb := Lib.hid (takeS_byte (k := k) hs)
  clear hT hs
  go_enter Tryd.func71, Tryd.ntmps71
  go_wp2_with fail
  refine hT'.out.mono ?_
  rintro e w1 ⟨A, n, c, rfl, hy, hnc, hc, _, hR, ht⟩
  have hl := hy.len
  have hn8 : n ≤ 8 := by omega
  have hz := Lib.hid (show (numS k s).1 = decN (takeS k s).1 ∧ (numS k s).2 = (takeS k s).2 from ⟨rfl, rfl⟩)
  have hF := Lib.hid (And.intro hR ht)
  have hy' := Lib.hid hy
  have hl' := Lib.hid hl
  clear hT' hR ht hy hll
  generalize hzs : (takeS k s).1 = zs at *
  clear hzs hl
  go_wp2_with fail
  go_loop [5, 12] (fun v i => ∃ j : Nat, j ≤ n ∧ i = .int .i64 j ∧ v = .int .i64 (decN (zs.take j))) (fun _ i => n - (intOf i).toNat)
  case atStart => exact ⟨0, Nat.zero_le _, rfl, rfl⟩
  case round =>
    obtain ⟨j, hj, rfl, rfl⟩ := hrel
    by_cases hlt : j < n
    · have hji : (j : Int) < (n : Int) := by omega
      obtain ⟨b, off, rfl, hcell⟩ := hy'.out.cell (by omega)
      have q1 := hcell j hlt
      have hcb : isByte (zs.getD j 0) := by
        rw [List.getD_eq_getElem?_getD, List.getElem?_eq_getElem (by rw [hl'.out]; exact hlt)]
        exact hbb.out _ (List.getElem_mem _)
      unfold isByte at hcb
      have hsn : zs.take (j + 1) = zs.take j ++ [zs.getD j 0] := by
        rw [List.take_succ_eq_append_getElem (by rw [hl'.out]; exact hlt)]
        simp [List.getD_eq_getElem?_getD, hl'.out, hlt]
      have hst := Lib.hid (show decN (zs.take (j + 1)) = IntKind.i64.wrap (decN (zs.take j) * 256 + zs.getD j 0) by rw [hsn, decN_snoc])
      clear hcell hsn
      generalize decN (zs.take j) = v at *
      generalize zs.getD j 0 = x at *
      have hor := i64_or_low v x hcb.1 (by omega)
      rw [show IntKind.i64.wrap (v * 256) = wrap64 (v * 256) by rw [IntKind.wrap_i64]; unfold wrap64; omega] at hor
      have hor' := Lib.hid hor
      clear hor
      go_wp2_with fail
      go_round
      case rel =>
        refine ⟨j + 1, hlt, by go_num, ?_⟩
        rw [hst.out, ← hor'.out]
      case measure => simp [intOf]; omega
    · obtain rfl : j = n := by omega
      have hge : (j : Int) ≤ (j : Int) := Int.le_refl _
      go_wp2_with fail
      go_ret
      refine ⟨ret_int ?_, by rw [hz.out.2]; exact hF.out.1, hF.out.2⟩
      rw [hz.out.1, List.take_of_length_le (by rw [hl'.out]; exact Nat.le_refl _)]
theorem number_any (r k : Nat) (s : Option (List Int)) (w : World) (h : IsRd w r s) (hk : k ≤ 8) (hs : ∀ ys, s = some ys → ∀ y ∈ ys, isByte y) : Calls Tryd.prog 71 #[.pointer (some ⟨r, 0, none⟩), .int .i64 k] w (NumSPost r k s w) :=
  number_by r k s w (take_any r k s w h (by omega)) hk hs
/-! row, dirty, open -/
theorem numS1_nat (s : Option (List Int)) (hs : ∀ ys, s = some ys → ∀ y ∈ ys, isByte y) : ∃ k : Nat, (numS 1 s).1 = (k : Int) ∧ k ≤ 255 := by
  have h1 := takeS_len 1 s
  have h2 := decN_small (takeS 1 s).1 (takeS_byte hs) (by omega)
  have h3 : (2 : Int) ^ (8 * (takeS 1 s).1.length) ≤ 256 := by
    rcases (show (takeS 1 s).1.length = 0 ∨ (takeS 1 s).1.length = 1 by omega) with e | e <;> rw [e] <;> decide
  refine ⟨(numS 1 s).1.toNat, ?_, ?_⟩
  · unfold numS; omega
  · unfold numS; omega
theorem numS2_nat (s : Option (List Int)) (hs : ∀ ys, s = some ys → ∀ y ∈ ys, isByte y) : ∃ k : Nat, (numS 2 s).1 = (k : Int) ∧ k ≤ 65535 := by
  have h1 := takeS_len 2 s
  have h2 := decN_small (takeS 2 s).1 (takeS_byte hs) (by omega)
  have h3 : (2 : Int) ^ (8 * (takeS 2 s).1.length) ≤ 65536 := by
    rcases (show (takeS 2 s).1.length = 0 ∨ (takeS 2 s).1.length = 1 ∨ (takeS 2 s).1.length = 2 by omega) with e | e | e <;> rw [e] <;> decide
  refine ⟨(numS 2 s).1.toNat, ?_, ?_⟩
  · unfold numS; omega
  · unfold numS; omega
theorem takeS_bytes {k : Nat} {s : Option (List Int)} (hs : ∀ ys, s = some ys → ∀ y ∈ ys, isByte y) : ∀ ys, (takeS k s).2 = some ys → ∀ y ∈ ys, isByte y := by
  intro ys e y hy
  obtain ⟨l, e2, _⟩ := takeS_fall e
  exact hs _ e2 y (by simp [hy])
theorem numS_bytes {k : Nat} {s : Option (List Int)} (hs : ∀ ys, s = some ys → ∀ y ∈ ys, isByte y) : ∀ ys, (numS k s).2 = some ys → ∀ y ∈ ys, isByte y := takeS_bytes hs
theorem rowS_bytes {s : Option (List Int)} (hs : ∀ ys, s = some ys → ∀ y ∈ ys, isByte y) : ∀ ys, (rowS s).2 = some ys → ∀ y ∈ ys, isByte y := takeS_bytes (numS_bytes hs)
def RowPost (r : Nat) (s : Option (List Int)) (w : World) (e : Ending) (w' : World) : Prop :=
  ∃ A c, e = .returned (.slice A (rowS s).1.length c) ∧ OwnV w' A (rowS s).1.length c (rowS s).1 ∧ (∀ g, A = some ⟨g, 0, none⟩ → w.heap.size ≤ g) ∧ IsRd w' r (rowS s).2 ∧ Turned (· = r) w w'
theorem clone_any (A : Option Addr) (n c : Nat) (zs : List Int) (w : World) (h : BytS w A n c zs) (hn : n ≤ 1000000) :
    Calls Tryd.prog 40 #[.slice A n c] w (PutB zs w) := by
  cases A with
  | none =>
    obtain ⟨rfl, rfl⟩ := h.nil_ rfl
    obtain rfl : zs = [] := List.length_eq_zero_iff.1 h.len
    refine (Any.bytes_Clone_nil Tryd.laysSlK4 0 0 w).mono ?_
    rintro e w' ⟨rfl, rfl⟩
    exact ⟨none, 0, rfl, OwnV.nil _, (fun g e => by cases e), Turned.refl _ _⟩
  | some a =>
    refine (Any.bytes_Clone_at Tryd.laysSlK4 a n c zs w h.len (by omega) (fun i hi => ?_)).mono ?_
    · have h2 := h.news a rfl i (.int .u8 (zs.getD i 0)) (by
        have := h.len
        simp only [u8s, List.getElem?_map, List.getD_eq_getElem?_getD]
        rw [List.getElem?_eq_getElem (by omega)]
        rfl)
      exact h2
    · rintro e w' ⟨v, rfl, hown, hne, hbel⟩
      rcases hown.2 with ⟨rfl, h0⟩ | ⟨g, cap, cur, rfl, hg, hr⟩
      · exact absurd rfl hne
      · have hl := h.len
        subst hl
        refine ⟨some ⟨g, 0, none⟩, cap, rfl, ?_, fun g' e => by injection e with e; injection e with e; omega, Turned.of_below hbel _⟩
        have := RowB.of_own hown
        exact OwnV.of_row this
set_option maxRecDepth 100000 in
theorem row_any (r : Nat) (s : Option (List Int)) (w : World) (h : IsRd w r s) (hs : ∀ ys, s = some ys → ∀ y ∈ ys, isByte y) : Calls Tryd.prog 77 #[.pointer (some ⟨r, 0, none⟩)] w (RowPost r s w) := by
  obtain ⟨k, hk, hk2⟩ := numS1_nat s hs
  have h1 := number_any r 1 s w h (by omega) hs
  unfold NumSPost at h1
  rw [hk] at h1
  have h1' := Lib.hid h1
  have hk' := Lib.hid hk
  have hrz := Lib.hid (show rowS s = takeS k (numS 1 s).2 by unfold rowS; rw [hk, Int.toNat_natCast])
  have hll := takeS_len k (numS 1 s).2
  clear h1 h hk
  go_enter Tryd.func77, Tryd.ntmps77
  go_wp2_with fail
  refine h1'.out.mono ?_
  rintro e w1 ⟨rfl, hR1, t1⟩
  have t1' := Lib.hid t1
  clear t1 h1'
  go_wp2_with fail
  refine (take_any r k _ w1 hR1 (by omega)).mono ?_
  rintro e w2 ⟨A, n, c, rfl, hy, hnc, hc, hpl, hR2, t2⟩
  have hn : n ≤ 255 := by have := hy.len; omega
  have t2' := Lib.hid t2
  have hR2' := Lib.hid hR2
  have hy' := Lib.hid hy
  clear t2 hR2 hR1 hy hll hpl
  go_wp2_with fail
  refine (clone_any A n c _ w2 hy'.out (by omega)).mono ?_
  rintro e w3 ⟨A3, c3, rfl, o3, g3, t3⟩
  have F := Lib.hid (And.intro o3 (And.intro g3 t3))
  clear o3 g3 t3
  go_wp2_with fail
  go_ret
  rw [← hrz.out] at F ⊢
  refine ⟨A3, c3, rfl, F.out.1, fun g e => ?_, ?_, (t1'.out.trans (W := (· = r)) t2'.out (fun _ e => e) (fun _ e => .inl e)).trans (W := (· = r)) F.out.2.2 (fun _ e => e) (fun _ e => e.elim)⟩
  · exact Nat.le_trans (Nat.le_trans t1'.out.size t2'.out.size) (F.out.2.1 g e)
  · rw [hrz.out]
    exact hR2'.out.fresh F.out.2.2
end Go.Proofs.YtfheikmjjijdpaaDoor

