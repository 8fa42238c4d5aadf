/-
 ytglojnmcbochaaagreatdoor: laws and walks on the road to LinesNumbers, joined: LLd NLd. Conditions stand at each theorem.
-/
import Derived.Test.YtglojnmcbochaaaGreatDoorUNmP
import Derived.Test.YtglojnmcbochaaaGreatDoorTie
import Derived.ProofKit
import Derived.OpenShut
import Derived.LaidMore
import Derived.Lay
import Derived.SevenTiedAt
import Derived.Stop.Joined
import Derived.Stop.LaidErr
import Derived.Lib.LaidTab
import Derived.Lib.SmallJoins
import Derived.Test.YtglojnmcbochaaaGreatDoorURfQh
import Derived.Lib.Space
namespace Go.Proofs.YtglojnmcbochaaaGreatDoor
open Go.RowKit

theorem cells_of_textsL {H : Type} {enc : TypeId × Value → H} {P : Program} {w : World} {base : Nat} {sp : Nat → Bool} {held : Bool} {fuel : Nat} {t e : TypeId} {n : Nat} {cs : List Value} {zs : List (List UInt8)} {p : List MemPlace}
  (ht : P.underlying t = some (.array n e)) (he : P.underlying e = some .string) (hce : P.cellsOf e = 1) (hct : P.cellsOf t = n)
  (h : DataW.trod enc P w base sp held fuel t cs = some (.agg (zs.map fun z => .lit (.string z)), p)) : cs = zs.map strV := by
 cases fuel with
 | zero => simp [DataW.trod] at h
 | succ fuel =>
  simp only [DataW.trod, ht, hce, hct, Nat.mul_one] at h
  split at h
  ·rename_i hl
   obtain ⟨xs, hm, hx⟩ := Option.map_eq_some_iff.1 h
   have hxs : xs.map (·.1) = zs.map fun z => (DataW.lit (.string z) : DataW H) := by
    have := congrArg Prod.fst hx
    simpa using this
   have hxl : xs.length = n := by simpa using Lib.mapM_length hm
   have hzl : zs.length = n := by
    have := congrArg List.length hxs
    simp at this
    omega
   apply List.ext_getElem?
   intro i
   by_cases hi : i < n
   ·obtain ⟨b, hb, hf⟩ := Lib.mapM_at hm i i (by simp [hi])
    obtain ⟨z, hc, rfl, _⟩ := DataW.trod_string he hf
    have h1 : cs[i]? = some (.string z) := by
     have := congrArg (·[0]?) hc
     simpa [List.getElem?_take, List.getElem?_drop] using this
    have h2 : (xs.map (·.1))[i]? = some (DataW.lit (.string z.data.toList) : DataW H) := by simp [hb]
    rw [hxs] at h2
    simp only [List.getElem?_map, Option.map_eq_some_iff, DataW.lit.injEq, Lit.string.injEq] at h2
    obtain ⟨z', hz', e⟩ := h2
    rw [h1, List.getElem?_map, hz', e]
    rfl
   ·rw [List.getElem?_eq_none (by omega), List.getElem?_eq_none (by simp; omega)]
  ·cases h
theorem cells_of_pairs {H : Type} {enc : TypeId × Value → H} {P : Program} {w : World} {base : Nat} {sp : Nat → Bool} {held : Bool} {fuel : Nat} {t e : TypeId} {f0 f1 : Field} {n : Nat} {cs : List Value} {zs : List (List UInt8 × List UInt8)} {p : List MemPlace}
  (ht : P.underlying t = some (.array n e)) (he : P.underlying e = some (.struct #[f0, f1])) (hce : P.cellsOf e = 2) (hct : P.cellsOf t = n * 2) (ho0 : f0.offset = 0) (ho1 : f1.offset = 1) (hc0 : P.cellsOf f0.type = 1) (hc1 : P.cellsOf f1.type = 1)
  (hu0 : P.underlying f0.type = some .string) (hu1 : P.underlying f1.type = some .string)
  (h : DataW.trod enc P w base sp held fuel t cs = some (.agg (zs.map fun z => .agg [.lit (.string z.1), .lit (.string z.2)]), p)) : ∀ i z, zs[i]? = some z → cs[i * 2]? = some (strV z.1) ∧ cs[i * 2 + 1]? = some (strV z.2) := by
 cases fuel with
 | zero => simp [DataW.trod] at h
 | succ fuel =>
  simp only [DataW.trod, ht, hce, hct] at h
  split at h
  ·rename_i hl
   obtain ⟨xs, hm, hx⟩ := Option.map_eq_some_iff.1 h
   have hxs : xs.map (·.1) = zs.map fun z => (DataW.agg [.lit (.string z.1), .lit (.string z.2)] : DataW H) := by
    have := congrArg Prod.fst hx
    simpa using this
   have hxl : xs.length = n := by simpa using Lib.mapM_length hm
   have hzl : zs.length = n := by
    have := congrArg List.length hxs
    simp at this
    omega
   intro i z hz
   have hi : i < n := by
    have := (List.getElem?_eq_some_iff.1 hz).1
    omega
   obtain ⟨b, hb, hf⟩ := Lib.mapM_at hm i i (by simp [hi])
   obtain ⟨ys, n', _, hy, hlen, hyl, hfs⟩ := DataW.trod_struct he hf
   have g0 := hfs 0 f0 rfl
   have g1 := hfs 1 f1 rfl
   have hys : ys.length = 2 := hyl
   rw [ho0, hc0] at g0
   rw [ho1, hc1] at g1
   obtain ⟨z0, e0, k0, _⟩ := DataW.trod_string hu0 (g0.trans (List.getElem?_eq_getElem (by omega)))
   obtain ⟨z1, e1, k1, _⟩ := DataW.trod_string hu1 (g1.trans (List.getElem?_eq_getElem (by omega)))
   have h2 : (xs.map (·.1))[i]? = some b.1 := by simp [hb]
   rw [hxs] at h2
   simp only [List.getElem?_map, hz, Option.map_some, Option.some.injEq] at h2
   rw [hy] at h2
   injection h2 with h2
   obtain ⟨y0, y1, hyy⟩ : ∃ y0 y1, ys = [y0, y1] := by
    match ys, hys with
    | [a, b], _ => exact ⟨a, b, rfl⟩
   subst hyy
   simp only [zF, List.map_nil, List.cons.injEq, and_true] at h2
   obtain ⟨h3, h4⟩ := h2
   have k0' : y0 = (DataW.lit (Lit.string z0.data.toList), []) := k0
   have k1' : y1 = (DataW.lit (Lit.string z1.data.toList), []) := k1
   rw [k0'] at h3
   rw [k1'] at h4
   simp only [DataW.lit.injEq, Lit.string.injEq] at h3 h4
   have c0 : cs[i * 2]? = some (.string z0) := by
    have := congrArg (·[0]?) e0
    simpa [List.getElem?_take, List.getElem?_drop] using this
   have c1 : cs[i * 2 + 1]? = some (.string z1) := by
    have := congrArg (·[0]?) e1
    simpa [List.getElem?_take, List.getElem?_drop] using this
   rw [c0, c1, h3, h4]
   exact ⟨rfl, rfl⟩
  ·cases h
def verbPs : List (List UInt8 × List UInt8) := (List.range 16).map fun k => (verbT.getD k [], fBytes (verbF.getD k []))
theorem verbPs_at (k : Nat) (hk : k < 16) : verbPs[k]? = some (verbT.getD k [], fBytes (verbF.getD k [])) := by
 unfold verbPs
 rw [List.getElem?_map, List.getElem?_range hk]
 rfl
theorem verbs_of_head {W : World} {rest : List (String × DataW Unit)} (h : laidMet Tryz.prog (("storeman/lines.verbs", Rows.laid_storeman_lines_verbs) :: rest) W) : VerbsOk W := by
 obtain ⟨ps, ⟨g', t', cs, fuel, p, q, hg', ht', hvar, hd, _, _⟩, _⟩ := h
 have hg : Tryz.prog.globalNamed "storeman/lines.verbs" = some 1 := by kernel_rfl
 have hty : (Tryz.prog.globals[1]?).map (·.type) = some 136 := by kernel_rfl
 obtain rfl := Option.some.inj (hg.symm.trans hg')
 obtain rfl := Option.some.inj (hty.symm.trans ht')
 have e : (Rows.laid_storeman_lines_verbs : DataW Unit) = .agg (verbPs.map fun z => .agg [.lit (.string z.1), .lit (.string z.2)]) := rfl
 rw [e] at hd
 have hc := cells_of_pairs Tryz.underlying136 Tryz.underlying135 (by kernel_rfl) (by kernel_rfl) rfl rfl (by kernel_rfl) (by kernel_rfl) Tryz.underlying9 Tryz.underlying9 hd
 intro k hk
 obtain ⟨c0, c1⟩ := hc k _ (verbPs_at k hk)
 rw [World.var?_cell hg hvar (2 * k), World.var?_cell hg hvar (2 * k + 1), Nat.mul_comm 2 k]
 have h0 : cs[k * 2]? = some (strV (verbT.getD k [])) := by simpa using c0
 have h1 : cs[k * 2 + 1]? = some (strV (fBytes (verbF.getD k []))) := by simpa using c1
 exact ⟨h0, h1⟩
theorem kinds_of_headL {W : World} {rest : List (String × DataW Unit)} (h : laidMet Tryz.prog (("storeman/ask.kinds", Rows.laid_storeman_ask_kinds) :: rest) W) : KindsOk W := by
 obtain ⟨ps, ⟨g', t', cs, fuel, p, q, hg', ht', hvar, hd, _, _⟩, _⟩ := h
 have hg : Tryz.prog.globalNamed "storeman/ask.kinds" = some 2 := by kernel_rfl
 have hty : (Tryz.prog.globals[2]?).map (·.type) = some 145 := by kernel_rfl
 obtain rfl := Option.some.inj (hg.symm.trans hg')
 obtain rfl := Option.some.inj (hty.symm.trans ht')
 have e : (Rows.laid_storeman_ask_kinds : DataW Unit) = .agg (kindT.map fun z => .lit (.string z)) := rfl
 rw [e] at hd
 have hc := cells_of_textsL Tryz.underlying145 Tryz.underlying9 (by kernel_rfl) (by kernel_rfl) hd
 have hcs : cs = (kindT.map strV).toArray := by rw [← hc]
 rw [hcs] at hvar
 intro i hi
 have := World.var?_cell hg hvar i
 rw [this]
 have hl : i < kindT.length := hi
 simp [List.getD, hl]
theorem ptrNameL : "*" ++ "errors.errorString" = "*errors.errorString" := by decide
theorem ptrRowL (u : TypeId) (h : Tryz.prog.typeName? 3 u = some "*errors.errorString") : u = 232 :=
 typeName_ptr_named (nm := "errors.errorString") (by rw [ptrNameL]; kernel_rfl) (by kernel_rfl) (by decide) u (by rw [ptrNameL]; exact h)
theorem vars_of_tails {W : World} {r1 r2 r3 : List (String × DataW Unit)} (h3 : laidMet Tryz.prog (("internal/strconv.uint64pow10", Rows.laid_internal_strconv_uint64pow10) :: r1) W) (h4 : laidMet Tryz.prog (("strconv.ErrRange", Rows.laid_strconv_ErrRange) :: r2) W) (h5 : laidMet Tryz.prog (("strconv.ErrSyntax", Rows.laid_strconv_ErrSyntax) :: r3) W) : VarsOk W := by
 obtain ⟨a0, s0, hv0, -, -, -⟩ := laid_sentinel h4 (g := 9) (ti := 111) (by kernel_rfl) (by kernel_rfl) Tryz.underlying111 ptrRowL Tryz.underlying232 Tryz.underlying234 rfl rfl Tryz.underlying9 (by kernel_rfl) (by kernel_rfl)
 obtain ⟨a1, s1, hv1, -, -, -⟩ := laid_sentinel h5 (g := 8) (ti := 111) (by kernel_rfl) (by kernel_rfl) Tryz.underlying111 ptrRowL Tryz.underlying232 Tryz.underlying234 rfl rfl Tryz.underlying9 (by kernel_rfl) (by kernel_rfl)
 exact ⟨⟨_, _, hv1⟩, ⟨_, _, hv0⟩, Lib.tabIs_of_head (g := 5) (by kernel_rfl) (by kernel_rfl) Tryz.underlying209 Tryz.underlying139 (by kernel_rfl) (by kernel_rfl) h3⟩
end Go.Proofs.YtglojnmcbochaaaGreatDoor

namespace Go.Proofs.YtglojnmcbochaaaGreatDoor
open Go.RowKit

set_option maxRecDepth 100000 in
theorem space_tab : (Rows.laid_strings_asciiSpace : DataW Unit) = Lib.tabData .u8 Lib.asciiSpaceTab := by kernel_rfl
theorem nmVars_of {W : World} (h : laidMet Tryz.prog [("math/bits.deBruijn32tab", Rows.laid_math_bits_deBruijn32tab), ("math/bits.deBruijn64tab", Rows.laid_math_bits_deBruijn64tab), ("internal/strconv.uint64pow10", Rows.laid_internal_strconv_uint64pow10), ("unicode/utf8.acceptRanges", Rows.laid_unicode_utf8_acceptRanges), ("strconv.ErrRange", Rows.laid_strconv_ErrRange), ("strconv.ErrSyntax", Rows.laid_strconv_ErrSyntax), ("unicode.White_Space", Rows.laid_unicode_White_Space), ("strings.asciiSpace", Rows.laid_strings_asciiSpace), ("storeman/ask.kinds", Rows.laid_storeman_ask_kinds), ("storeman/lines.verbs", Rows.laid_storeman_lines_verbs), ("unicode/utf8.first", Rows.laid_unicode_utf8_first)] W) : NmVars W := by
 have h3 := laidMet.tail (laidMet.tail h)
 have h5 := laidMet.tail (laidMet.tail h3)
 have h6 := laidMet.tail h5
 have h8 := laidMet.tail (laidMet.tail h6)
 have h9 := laidMet.tail h8
 have h10 := laidMet.tail h9
 rw [space_tab] at h8
 exact ⟨⟨vars_of_tails h3 h5 h6, kinds_of_headL h9, verbs_of_head h10⟩, Lib.tabIs_of_head (g := 0) (by kernel_rfl) (by kernel_rfl) Tryz.underlying102 Tryz.underlying5 (by kernel_rfl) (by kernel_rfl) h8⟩
end Go.Proofs.YtglojnmcbochaaaGreatDoor

