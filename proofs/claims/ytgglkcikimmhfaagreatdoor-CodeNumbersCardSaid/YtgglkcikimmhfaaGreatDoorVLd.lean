/-
  From a row's list of variables ('laid') to what the walks take: VarsOk. No condition.
-/
import Derived.Test.YtgglkcikimmhfaaGreatDoorCodE
import Derived.Test.YtgglkcikimmhfaaGreatDoorTie
import Derived.ProofKit
import Derived.OpenShut
import Derived.LaidMore
import Derived.Lay
import Derived.SevenTiedAt
import Derived.Stop.Joined
import Derived.Stop.LaidErr
import Derived.Lib.LaidTab
import Derived.Lib.SmallJoins
namespace Go.Proofs.YtgglkcikimmhfaaGreatDoor
open Go.RowKit

theorem ptrName : "*" ++ "errors.errorString" = "*errors.errorString" := by decide
theorem ptrRow (u : TypeId) (h : Tryz.prog.typeName? 3 u = some "*errors.errorString") : u = 240 :=
  typeName_ptr_named (nm := "errors.errorString") (by rw [ptrName]; kernel_rfl) (by kernel_rfl) (by decide) u (by rw [ptrName]; exact h)
theorem varsOk_of {W : World} (h : laidMet Tryz.prog [("math/bits.deBruijn32tab", Rows.laid_math_bits_deBruijn32tab), ("math/bits.deBruijn64tab", Rows.laid_math_bits_deBruijn64tab), ("internal/strconv.uint64pow10", Rows.laid_internal_strconv_uint64pow10), ("strconv.ErrRange", Rows.laid_strconv_ErrRange), ("strconv.ErrSyntax", Rows.laid_strconv_ErrSyntax)] W) : VarsOk W := by
  have h3 := laidMet.tail (laidMet.tail h)
  have h4 := laidMet.tail h3
  have h5 := laidMet.tail h4
  obtain ⟨a0, s0, hv0, -, -, -⟩ := laid_sentinel h4 (g := 2) (ti := 49) (by kernel_rfl) (by kernel_rfl) Tryz.underlying49 ptrRow Tryz.underlying240 Tryz.underlying242 rfl rfl Tryz.underlying9 (by kernel_rfl) (by kernel_rfl)
  obtain ⟨a1, s1, hv1, -, -, -⟩ := laid_sentinel h5 (g := 1) (ti := 49) (by kernel_rfl) (by kernel_rfl) Tryz.underlying49 ptrRow Tryz.underlying240 Tryz.underlying242 rfl rfl Tryz.underlying9 (by kernel_rfl) (by kernel_rfl)
  exact ⟨⟨_, _, hv1⟩, ⟨_, _, hv0⟩, Lib.tabIs_of_head (g := 3) (by kernel_rfl) (by kernel_rfl) Tryz.underlying227 Tryz.underlying57 (by kernel_rfl) (by kernel_rfl) h3⟩
end Go.Proofs.YtgglkcikimmhfaaGreatDoor
