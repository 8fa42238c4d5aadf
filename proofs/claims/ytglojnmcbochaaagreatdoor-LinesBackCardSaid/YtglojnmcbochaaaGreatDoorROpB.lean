/-
  ytglojnmcbochaaagreatdoor: laws and walks on the road to LinesBack, joined: DskB DskC Reg DskD Kit KitB Open OpB. Conditions stand at each theorem.
-/
import Derived.Test.YtglojnmcbochaaaGreatDoorRArr
import Derived.OrdersHeld
import Derived.Deep.RegionHeld
import Derived.BigQuiet
import Derived.Deep.QuietTactic
import Derived.IntWalk
import Derived.Test.YtglojnmcbochaaaGreatDoorProg
import Derived.Test.YtglojnmcbochaaaGreatDoorRMem
import Derived.ProofKit
import Derived.Deep.Slices
import Derived.Deep.MidRow
import Derived.OpenShut
import Derived.ChangeSlices
import Derived.SizedLaws
namespace Go.Proofs.YtglojnmcbochaaaGreatDoor
open Go.RowKit Go.Maps

theorem mixed : Tryz.prog.follows .mixedOrders = true := by kernel_rfl
def RetNew (v : Value) (w : World) (e : Ending) (w' : World) : Prop := e = .returned v ∧ Turned (fun _ => False) w w'

section
end
end Go.Proofs.YtglojnmcbochaaaGreatDoor

namespace Go.Proofs.YtglojnmcbochaaaGreatDoor
open Go.RowKit Go.Maps

end Go.Proofs.YtglojnmcbochaaaGreatDoor

namespace Go.Proofs.YtglojnmcbochaaaGreatDoor
open Go.RowKit Go.Maps

section
variable {P : Program} {ops : Array Oper} {Q : Exit → Act → World → Prop} {md : Region.Mode} {S : World → Prop}

end
end Go.Proofs.YtglojnmcbochaaaGreatDoor

namespace Go.Proofs.YtglojnmcbochaaaGreatDoor
open Go.RowKit Go.Maps

theorem cell_turned {w w' : World} {W : Nat → Prop} (ht : Turned W w w') {a : Addr} {v : Value} (h : w.cell? a = some v) (hW : ¬ W a.block) : w'.cell? a = some v :=
  (World.cell?_of_block (ht.block a.block (World.block_lt_of_cell? w a h) hW)).trans h
end Go.Proofs.YtglojnmcbochaaaGreatDoor

namespace Go.Proofs.YtglojnmcbochaaaGreatDoor
open Go.RowKit Go.Maps

theorem ret_int {k : IntKind} {a b : Int} (h : a = b) : Ending.returned (.int k a) = .returned (.int k b) := by rw [h]
theorem ret_bool {a b : Bool} (h : a = b) : Ending.returned (.bool a) = .returned (.bool b) := by rw [h]
theorem tmod_neg (x n : Int) (hx : x < 0) (hn : 1 ≤ n) : -n < x.tmod n ∧ x.tmod n ≤ 0 ∧ (x % n = if x.tmod n < 0 then x.tmod n + n else x.tmod n) := by
  have h1 := Int.tmod_add_mul_tdiv x n
  have h2 : x.tmod n = -((-x) % n) := by
    rw [show x = -(-x) by omega, Int.neg_tmod, Int.tmod_eq_emod_of_nonneg (by omega)]; simp
  have h3 := Int.emod_nonneg (-x) (show n ≠ 0 by omega)
  have h4 := Int.emod_lt_of_pos (-x) (show 0 < n by omega)
  refine ⟨by omega, by omega, ?_⟩
  split
  · have e : x.tmod n + n + n * (x.tdiv n - 1) = x := by rw [Int.mul_sub]; omega
    exact ((Int.ediv_emod_unique (a := x) (b := n) (r := x.tmod n + n) (q := x.tdiv n - 1) (by omega)).2 ⟨e, by omega, by omega⟩).2
  · exact ((Int.ediv_emod_unique (a := x) (b := n) (r := x.tmod n) (q := x.tdiv n) (by omega)).2 ⟨h1, by omega, by omega⟩).2

theorem pick_any (x n : Int) (w : World) (hn : 1 ≤ n) (hn2 : n ≤ 1000000) (hx1 : -9223372036854775808 ≤ x) (hx2 : x ≤ 9223372036854775807) :
    Calls Tryz.prog 17 #[.int .i64 x, .int .i64 n] w (RetSame (.int .i64 (x % n)) w) := by
  by_cases h0 : 0 ≤ x
  · have := Int.emod_nonneg x (show n ≠ 0 by omega)
    go_enter Tryz.func17, Tryz.ntmps17
    go_wp2
    go_ret
    exact ⟨rfl, rfl⟩
  · obtain ⟨h1, h2, h3⟩ := tmod_neg x n (by omega) hn
    by_cases h4 : x.tmod n < 0
    · rw [if_pos h4] at h3
      have h3' := Lib.hid h3
      clear h3
      go_enter Tryz.func17, Tryz.ntmps17
      go_wp2
      go_ret
      exact ⟨ret_int h3'.out.symm, rfl⟩
    · rw [if_neg h4] at h3
      have h3' := Lib.hid h3
      clear h3
      go_enter Tryz.func17, Tryz.ntmps17
      go_wp2
      go_ret
      exact ⟨ret_int h3'.out.symm, rfl⟩

/-- n bytes zs at A. -/
structure BytR (w : World) (A : Option Addr) (n : Nat) (zs : List Int) : Prop where
  len : zs.length = n
  max : n ≤ 9223372036854775807
  cell : 0 < n → ∃ b off, A = some ⟨b, off, none⟩ ∧ ∀ j, j < n → w.cell? ⟨b, off + j, none⟩ = some (.int .u8 (zs.getD j 0))
theorem BytR.none_ (w : World) : BytR w none 0 [] := ⟨rfl, by omega, fun h => absurd h (by omega)⟩
def RetDraw (v : Value) (w : World) (e : Ending) (w' : World) : Prop := e = .returned v ∧ ∃ n, w' = w.drewN n

end Go.Proofs.YtglojnmcbochaaaGreatDoor

namespace Go.Proofs.YtglojnmcbochaaaGreatDoor
open Go.RowKit Go.Maps

/-- A slice of bytes that may be nil, then without room. -/
structure BytS (w : World) (A : Option Addr) (n c : Nat) (zs : List Int) : Prop extends BytR w A n zs where
  nil_ : A = none → n = 0 ∧ c = 0
theorem BytS.news {w : World} {A : Option Addr} {n c : Nat} {zs : List Int} (h : BytS w A n c zs) : ∀ ad, A = some ad → ∀ j u, (u8s zs)[j]? = some u → w.cell? (ad.add j) = some u := by
  intro ad had j u hu
  have hj : j < n := by
    have := (List.getElem?_eq_some_iff.1 hu).1
    rw [u8s_length, h.len] at this
    exact this
  obtain ⟨b, off, rfl, hc⟩ := h.cell (by omega)
  injection had with had
  subst had
  have hl := h.len
  rw [Addr.add_mid, hc j hj, ← hu]
  simp only [u8s, List.getElem?_map, List.getD_eq_getElem?_getD]
  rw [List.getElem?_eq_getElem (by omega)]
  rfl
theorem BytR.turned {w w' : World} {W : Nat → Prop} {A : Option Addr} {n : Nat} {zs : List Int} (h : BytR w A n zs) (ht : Turned W w w') (hW : ∀ b o, A = some ⟨b, o, none⟩ → ¬ W b) : BytR w' A n zs :=
  ⟨h.len, h.max, fun hn => by
    obtain ⟨b, off, e, hc⟩ := h.cell hn
    exact ⟨b, off, e, fun j hj => cell_turned ht (hc j hj) (hW b off e)⟩⟩
theorem BytS.turned {w w' : World} {W : Nat → Prop} {A : Option Addr} {n c : Nat} {zs : List Int} (h : BytS w A n c zs) (ht : Turned W w w') (hW : ∀ b o, A = some ⟨b, o, none⟩ → ¬ W b) : BytS w' A n c zs :=
  ⟨h.toBytR.turned ht hW, h.nil_⟩

end Go.Proofs.YtglojnmcbochaaaGreatDoor

namespace Go.Proofs.YtglojnmcbochaaaGreatDoor
open Go.RowKit Go.ChangeShapes Go.WideShapes Go.Deep

section
variable {H : Type} {enc : TypeId × Value → H} {P : Program} {w : World} {base : Nat} {spare : Nat → Bool} {held : Bool}

theorem plain_addr {a : Addr} {v : Value} (h : w.cell? a = some v) : a = ⟨a.block, a.off, none⟩ := by
  unfold World.cell? at h
  split at h
  · split at h
    · cases h
    · rename_i hs
      cases a with
      | mk b o s => cases s <;> simp_all
  · cases h

end

/-- Fates: n numbers at F, below block B. -/
structure FatesR (w : World) (B : Nat) (F : Option Addr) (n : Nat) (fs : List Int) : Prop where
  len : fs.length = n
  max : n ≤ 9223372036854775807
  wf : ∀ f ∈ fs, (Lit.int .i64 f).wf = true
  cell : 0 < n → ∃ b off, F = some ⟨b, off, none⟩ ∧ b < B ∧ ∀ j, j < n → w.cell? ⟨b, off + j, none⟩ = some (.int .i64 (fs.getD j 0))
theorem FatesR.none_ (w : World) (B : Nat) : FatesR w B none 0 [] := ⟨rfl, by omega, by simp, fun h => absurd h (by omega)⟩
theorem FatesR.below {w w' : World} {B n : Nat} {F : Option Addr} {fs : List Int} (h : FatesR w B F n fs) (hb : Below B w w') : FatesR w' B F n fs :=
  ⟨h.len, h.max, h.wf, fun hn => by
    obtain ⟨b, off, e, hlt, hc⟩ := h.cell hn
    exact ⟨b, off, e, hlt, fun j hj => (hb.cell (p := ⟨b, off + j, none⟩) hlt).trans (hc j hj)⟩⟩

end Go.Proofs.YtglojnmcbochaaaGreatDoor

namespace Go.Proofs.YtglojnmcbochaaaGreatDoor
open Go.RowKit Go.ChangeShapes Go.WideShapes Go.Deep

theorem u8_wf {n : Int} (h : (Lit.int .u8 n).wf = true) : isByte n := by
  simp [Lit.wf, IntKind.min, IntKind.max, IntKind.bits, IntKind.signed] at h
  unfold isByte
  omega
theorem i64b {n : Int} (h : (Lit.int .i64 n).wf = true) : -9223372036854775808 ≤ n ∧ n ≤ 9223372036854775807 := by
  simp [Lit.wf, IntKind.min, IntKind.max, IntKind.bits, IntKind.signed] at h
  omega
end Go.Proofs.YtglojnmcbochaaaGreatDoor

