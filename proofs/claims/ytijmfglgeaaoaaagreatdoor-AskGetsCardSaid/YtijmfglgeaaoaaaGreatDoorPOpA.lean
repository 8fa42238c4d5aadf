/-
  ytijmfglgeaaoaaagreatdoor: laws and walks on the road to AskGets, joined: ALd Open OpB OpA. Conditions stand at each theorem.
-/
import Derived.Test.YtijmfglgeaaoaaaGreatDoorPAskB
import Derived.Test.YtijmfglgeaaoaaaGreatDoorTie
import Derived.ProofKit
import Derived.OpenShut
import Derived.LaidMore
import Derived.Lay
import Derived.SevenTiedAt
import Derived.Stop.Joined
import Derived.Stop.LaidErr
import Derived.Lib.LaidTab
import Derived.Test.YtijmfglgeaaoaaaGreatDoorProg
import Derived.Test.YtijmfglgeaaoaaaGreatDoorPBits
import Derived.Deep.Slices
import Derived.Deep.MidRow
import Derived.Test.YtijmfglgeaaoaaaGreatDoorPKitB
import Derived.ChangeSlices
import Derived.SizedLaws
import Derived.Test.YtijmfglgeaaoaaaGreatDoorPAskR
import Derived.SliceStrings
namespace Go.Proofs.YtijmfglgeaaoaaaGreatDoor
open Go.RowKit

theorem cells_of_texts {H : Type} {enc : TypeId × Value → H} {P : Program} {w : World} {base : Nat} {sp : Nat → Bool} {held : Bool} {fuel : Nat} {t e : TypeId} {n : Nat} {cs : List Value} {zs : List (List UInt8)} {p : List MemPlace}
    (ht : P.underlying t = some (.array n e)) (he : P.underlying e = some .string) (hce : P.cellsOf e = 1) (hct : P.cellsOf t = n)
    (h : DataW.trod enc P w base sp held fuel t cs = some (.agg (zs.map fun z => .lit (.string z)), p)) : cs = zs.map strV := by
  cases fuel with
  | zero => simp [DataW.trod] at h
  | succ fuel =>
    simp only [DataW.trod, ht, hce, hct, Nat.mul_one] at h
    split at h
    · rename_i hl
      obtain ⟨xs, hm, hx⟩ := Option.map_eq_some_iff.1 h
      have hxs : xs.map (·.1) = zs.map fun z => (DataW.lit (.string z) : DataW H) := by
        have := congrArg Prod.fst hx
        simpa using this
      have hxl : xs.length = n := by simpa using Lib.mapM_length hm
      have hzl : zs.length = n := by
        have := congrArg List.length hxs
        simp at this
        omega
      apply List.ext_getElem?
      intro i
      by_cases hi : i < n
      · obtain ⟨b, hb, hf⟩ := Lib.mapM_at hm i i (by simp [hi])
        obtain ⟨z, hc, rfl, _⟩ := DataW.trod_string he hf
        have h1 : cs[i]? = some (.string z) := by
          have := congrArg (·[0]?) hc
          simpa [List.getElem?_take, List.getElem?_drop] using this
        have h2 : (xs.map (·.1))[i]? = some (DataW.lit (.string z.data.toList) : DataW H) := by simp [hb]
        rw [hxs] at h2
        simp only [List.getElem?_map, Option.map_eq_some_iff, DataW.lit.injEq, Lit.string.injEq] at h2
        obtain ⟨z', hz', e⟩ := h2
        rw [h1, List.getElem?_map, hz', e]
        rfl
      · rw [List.getElem?_eq_none (by omega), List.getElem?_eq_none (by simp; omega)]
    · cases h
theorem kinds_of_head {W : World} {rest : List (String × DataW Unit)} (h : laidMet Tryz.prog (("storeman/ask.kinds", Rows.laid_storeman_ask_kinds) :: rest) W) : KindsOk W := by
  obtain ⟨ps, ⟨g', t', cs, fuel, p, q, hg', ht', hvar, hd, _, _⟩, _⟩ := h
  have hg : Tryz.prog.globalNamed "storeman/ask.kinds" = some 0 := by kernel_rfl
  have hty : (Tryz.prog.globals[0]?).map (·.type) = some 104 := by kernel_rfl
  obtain rfl := Option.some.inj (hg.symm.trans hg')
  obtain rfl := Option.some.inj (hty.symm.trans ht')
  have e : (Rows.laid_storeman_ask_kinds : DataW Unit) = .agg (kindT.map fun z => .lit (.string z)) := rfl
  rw [e] at hd
  have hc := cells_of_texts Tryz.underlying104 Tryz.underlying9 (by kernel_rfl) (by kernel_rfl) hd
  have hcs : cs = (kindT.map strV).toArray := by rw [← hc]
  rw [hcs] at hvar
  intro i hi
  have := World.var?_cell hg hvar i
  rw [this]
  have hl : i < kindT.length := hi
  simp [List.getD, hl]
theorem kindsOk_of {W : World} (h : laidMet Tryz.prog [("unicode/utf8.acceptRanges", Rows.laid_unicode_utf8_acceptRanges), ("storeman/ask.kinds", Rows.laid_storeman_ask_kinds), ("unicode/utf8.first", Rows.laid_unicode_utf8_first)] W) : KindsOk W := kinds_of_head (laidMet.tail h)
end Go.Proofs.YtijmfglgeaaoaaaGreatDoor

namespace Go.Proofs.YtijmfglgeaaoaaaGreatDoor
open Go.RowKit Go.ChangeShapes Go.WideShapes Go.Deep

section
variable {H : Type} {enc : TypeId × Value → H} {P : Program} {w : World} {base : Nat} {spare : Nat → Bool} {held : Bool}

theorem plain_addr {a : Addr} {v : Value} (h : w.cell? a = some v) : a = ⟨a.block, a.off, none⟩ := by
  unfold World.cell? at h
  split at h
  · split at h
    · cases h
    · rename_i hs
      cases a with
      | mk b o s => cases s <;> simp_all
  · cases h

end

/-- Fates: n numbers at F, below block B. -/
structure FatesR (w : World) (B : Nat) (F : Option Addr) (n : Nat) (fs : List Int) : Prop where
  len : fs.length = n
  max : n ≤ 9223372036854775807
  wf : ∀ f ∈ fs, (Lit.int .i64 f).wf = true
  cell : 0 < n → ∃ b off, F = some ⟨b, off, none⟩ ∧ b < B ∧ ∀ j, j < n → w.cell? ⟨b, off + j, none⟩ = some (.int .i64 (fs.getD j 0))
theorem FatesR.none_ (w : World) (B : Nat) : FatesR w B none 0 [] := ⟨rfl, by omega, by simp, fun h => absurd h (by omega)⟩
theorem FatesR.below {w w' : World} {B n : Nat} {F : Option Addr} {fs : List Int} (h : FatesR w B F n fs) (hb : Below B w w') : FatesR w' B F n fs :=
  ⟨h.len, h.max, h.wf, fun hn => by
    obtain ⟨b, off, e, hlt, hc⟩ := h.cell hn
    exact ⟨b, off, e, hlt, fun j hj => (hb.cell (p := ⟨b, off + j, none⟩) hlt).trans (hc j hj)⟩⟩

end Go.Proofs.YtijmfglgeaaoaaaGreatDoor

namespace Go.Proofs.YtijmfglgeaaoaaaGreatDoor
open Go.RowKit Go.ChangeShapes Go.WideShapes Go.Deep

def BytsOk (w : World) (A : Option Addr) (n c : Nat) (zs : List Int) : Prop := BytS w A n c zs ∧ (∀ z ∈ zs, isByte z) ∧ n ≤ c ∧ c ≤ maxLen
theorem u8_wf {n : Int} (h : (Lit.int .u8 n).wf = true) : isByte n := by
  simp [Lit.wf, IntKind.min, IntKind.max, IntKind.bits, IntKind.signed] at h
  unfold isByte
  omega
theorem open_byts {H : Type} {enc : TypeId × Value → H} {w : World} {base : Nat} {spare : Nat → Bool} {held : Bool} {fuel : Nat} {v : Value} {x : DataW H × List MemPlace}
    (h : DataW.trod enc Tryz.prog w base spare held fuel 22 [v] = some x) : ∃ A n c zs, v = .slice A n c ∧ BytsOk w A n c zs ∧ (n = 0 ∨ ∃ e s, x.1 = .slice e s ∧ n ≤ e.length + s.length) := by
  rcases open_ints Tryz.underlying22 Tryz.underlying5 (by kernel_rfl) h with ⟨hcs, hx⟩ | ⟨a, len, cap, zs, hcs, hb, hl, hm, hz, hx, hcell, hwz⟩
  · exact ⟨none, 0, 0, [], by simpa using hcs, ⟨⟨BytR.none_ w, fun _ => ⟨rfl, rfl⟩⟩, by simp, Nat.le_refl _, Nat.zero_le _⟩, .inl rfl⟩
  · have hle : len ≤ zs.length := by rw [hz]; split <;> omega
    have hlt : (zs.take len).length = len := by rw [List.length_take]; omega
    refine ⟨some a, len, cap, zs.take len, by simpa using hcs, ⟨⟨⟨hlt, by unfold maxLen at hm; omega, fun h0 => ?_⟩, fun e => by cases e⟩, fun z hzm => u8_wf (hwz z (List.mem_of_mem_take hzm)), hl, hm⟩, .inr ⟨_, _, by rw [hx], ?_⟩⟩
    · have h1 := hcell 0 (by omega)
      have h2 : w.cell? a = some (.int .u8 (zs.getD 0 0)) := by simpa [Addr.add] using h1
      have h3 := plain_addr h2
      refine ⟨a.block, a.off, by rw [← h3], fun j hj => ?_⟩
      have h4 := hcell j (by omega)
      rw [h3, Addr.add_mid] at h4
      rw [h4]
      simp only [List.getD_eq_getElem?_getD, List.getElem?_take, if_pos hj]
    · simp [lits]
      omega
theorem sized_byts {H : Type} {ts : List TypeId} {ds : List (DataW H)} (h : (DataW.weightsEach Tryz.prog ts ds).all (· ≤ reachBytes) = true) {j n : Nat} {d : DataW H} (ht : ts[j]? = some 22) (hd : ds[j]? = some d) (hn : n = 0 ∨ ∃ e s, d = .slice e s ∧ n ≤ e.length + s.length) : n ≤ 140737488355328 := by
  rcases hn with h0 | ⟨e, s, rfl, hn⟩
  · omega
  · have h1 := sized_slice h ht hd Tryz.underlying22
    rw [show Tryz.prog.bytesOf 5 = 1 by kernel_rfl] at h1
    have := reachBytes_lt
    omega
end Go.Proofs.YtijmfglgeaaoaaaGreatDoor

namespace Go.Proofs.YtijmfglgeaaoaaaGreatDoor
open Go.RowKit Go.ChangeShapes Go.WideShapes Go.Deep
set_option linter.unusedVariables false

section
variable {H : Type} {enc : TypeId × Value → H} {P : Program} {w : World} {base : Nat} {spare : Nat → Bool} {held : Bool} {fuel : Nat}
end
end Go.Proofs.YtijmfglgeaaoaaaGreatDoor

