/-
  ytbecdijccifllaagreatdoor: laws and walks on the road to AskPuts, joined: ALd Open OpB. Conditions stand at each theorem.
-/
import Derived.Test.YtbecdijccifllaaGreatDoorPAskB
import Derived.Test.YtbecdijccifllaaGreatDoorTie
import Derived.ProofKit
import Derived.OpenShut
import Derived.LaidMore
import Derived.Lay
import Derived.SevenTiedAt
import Derived.Stop.Joined
import Derived.Stop.LaidErr
import Derived.Lib.LaidTab
import Derived.Test.YtbecdijccifllaaGreatDoorProg
import Derived.Test.YtbecdijccifllaaGreatDoorPBits
import Derived.Deep.Slices
import Derived.Deep.MidRow
import Derived.Test.YtbecdijccifllaaGreatDoorPKitB
import Derived.ChangeSlices
import Derived.SizedLaws
namespace Go.Proofs.YtbecdijccifllaaGreatDoor
open Go.RowKit

theorem cells_of_texts {H : Type} {enc : TypeId × Value → H} {P : Program} {w : World} {base : Nat} {sp : Nat → Bool} {held : Bool} {fuel : Nat} {t e : TypeId} {n : Nat} {cs : List Value} {zs : List (List UInt8)} {p : List MemPlace}
    (ht : P.underlying t = some (.array n e)) (he : P.underlying e = some .string) (hce : P.cellsOf e = 1) (hct : P.cellsOf t = n)
    (h : DataW.trod enc P w base sp held fuel t cs = some (.agg (zs.map fun z => .lit (.string z)), p)) : cs = zs.map strV := by
  cases fuel with
  | zero => simp [DataW.trod] at h
  | succ fuel =>
    simp only [DataW.trod, ht, hce, hct, Nat.mul_one] at h
    split at h
    · rename_i hl
      obtain ⟨xs, hm, hx⟩ := Option.map_eq_some_iff.1 h
      have hxs : xs.map (·.1) = zs.map fun z => (DataW.lit (.string z) : DataW H) := by
        have := congrArg Prod.fst hx
        simpa using this
      have hxl : xs.length = n := by simpa using Lib.mapM_length hm
      have hzl : zs.length = n := by
        have := congrArg List.length hxs
        simp at this
        omega
      apply List.ext_getElem?
      intro i
      by_cases hi : i < n
      · obtain ⟨b, hb, hf⟩ := Lib.mapM_at hm i i (by simp [hi])
        obtain ⟨z, hc, rfl, _⟩ := DataW.trod_string he hf
        have h1 : cs[i]? = some (.string z) := by
          have := congrArg (·[0]?) hc
          simpa [List.getElem?_take, List.getElem?_drop] using this
        have h2 : (xs.map (·.1))[i]? = some (DataW.lit (.string z.data.toList) : DataW H) := by simp [hb]
        rw [hxs] at h2
        simp only [List.getElem?_map, Option.map_eq_some_iff, DataW.lit.injEq, Lit.string.injEq] at h2
        obtain ⟨z', hz', e⟩ := h2
        rw [h1, List.getElem?_map, hz', e]
        rfl
      · rw [List.getElem?_eq_none (by omega), List.getElem?_eq_none (by simp; omega)]
    · cases h
theorem kinds_of_head {W : World} {rest : List (String × DataW Unit)} (h : laidMet Tryz.prog (("storeman/ask.kinds", Rows.laid_storeman_ask_kinds) :: rest) W) : KindsOk W := by
  obtain ⟨ps, ⟨g', t', cs, fuel, p, q, hg', ht', hvar, hd, _, _⟩, _⟩ := h
  have hg : Tryz.prog.globalNamed "storeman/ask.kinds" = some 0 := by kernel_rfl
  have hty : (Tryz.prog.globals[0]?).map (·.type) = some 109 := by kernel_rfl
  obtain rfl := Option.some.inj (hg.symm.trans hg')
  obtain rfl := Option.some.inj (hty.symm.trans ht')
  have e : (Rows.laid_storeman_ask_kinds : DataW Unit) = .agg (kindT.map fun z => .lit (.string z)) := rfl
  rw [e] at hd
  have hc := cells_of_texts Tryz.underlying109 Tryz.underlying9 (by kernel_rfl) (by kernel_rfl) hd
  have hcs : cs = (kindT.map strV).toArray := by rw [← hc]
  rw [hcs] at hvar
  intro i hi
  have := World.var?_cell hg hvar i
  rw [this]
  have hl : i < kindT.length := hi
  simp [List.getD, hl]
theorem kindsOk_of {W : World} (h : laidMet Tryz.prog [("unicode/utf8.acceptRanges", Rows.laid_unicode_utf8_acceptRanges), ("storeman/ask.kinds", Rows.laid_storeman_ask_kinds), ("unicode/utf8.first", Rows.laid_unicode_utf8_first)] W) : KindsOk W := kinds_of_head (laidMet.tail h)
end Go.Proofs.YtbecdijccifllaaGreatDoor

namespace Go.Proofs.YtbecdijccifllaaGreatDoor
open Go.RowKit Go.ChangeShapes Go.WideShapes Go.Deep

section
variable {H : Type} {enc : TypeId × Value → H} {P : Program} {w : World} {base : Nat} {spare : Nat → Bool} {held : Bool}

theorem plain_addr {a : Addr} {v : Value} (h : w.cell? a = some v) : a = ⟨a.block, a.off, none⟩ := by
  unfold World.cell? at h
  split at h
  · split at h
    · cases h
    · rename_i hs
      cases a with
      | mk b o s => cases s <;> simp_all
  · cases h

end

/-- Fates: n numbers at F, below block B. -/
structure FatesR (w : World) (B : Nat) (F : Option Addr) (n : Nat) (fs : List Int) : Prop where
  len : fs.length = n
  max : n ≤ 9223372036854775807
  wf : ∀ f ∈ fs, (Lit.int .i64 f).wf = true
  cell : 0 < n → ∃ b off, F = some ⟨b, off, none⟩ ∧ b < B ∧ ∀ j, j < n → w.cell? ⟨b, off + j, none⟩ = some (.int .i64 (fs.getD j 0))
theorem FatesR.none_ (w : World) (B : Nat) : FatesR w B none 0 [] := ⟨rfl, by omega, by simp, fun h => absurd h (by omega)⟩
theorem FatesR.below {w w' : World} {B n : Nat} {F : Option Addr} {fs : List Int} (h : FatesR w B F n fs) (hb : Below B w w') : FatesR w' B F n fs :=
  ⟨h.len, h.max, h.wf, fun hn => by
    obtain ⟨b, off, e, hlt, hc⟩ := h.cell hn
    exact ⟨b, off, e, hlt, fun j hj => (hb.cell (p := ⟨b, off + j, none⟩) hlt).trans (hc j hj)⟩⟩

end Go.Proofs.YtbecdijccifllaaGreatDoor

namespace Go.Proofs.YtbecdijccifllaaGreatDoor
open Go.RowKit Go.ChangeShapes Go.WideShapes Go.Deep

theorem u8_wf {n : Int} (h : (Lit.int .u8 n).wf = true) : isByte n := by
  simp [Lit.wf, IntKind.min, IntKind.max, IntKind.bits, IntKind.signed] at h
  unfold isByte
  omega
theorem i64b {n : Int} (h : (Lit.int .i64 n).wf = true) : -9223372036854775808 ≤ n ∧ n ≤ 9223372036854775807 := by
  simp [Lit.wf, IntKind.min, IntKind.max, IntKind.bits, IntKind.signed] at h
  omega
end Go.Proofs.YtbecdijccifllaaGreatDoor

