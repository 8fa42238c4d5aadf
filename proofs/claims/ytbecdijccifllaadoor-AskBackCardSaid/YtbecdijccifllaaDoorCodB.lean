/-
  The document's Right; code.Put and the document's: a code's bytes. No condition but a text's length.
-/
import Derived.Test.YtbecdijccifllaaDoorCodA
import Derived.Laws.BytesString
namespace Go.Proofs.YtbecdijccifllaaDoor
open Go.RowKit Go.Maps
set_option linter.unusedVariables false

theorem not_ok_at {s : ByteArray} {pos : Nat} (hp : pos < s.size) (h : okAt pos (s[pos]'hp).toNat = true) (ho : okFrom 0 (s.data.toList.take pos) = true) : okFrom 0 (s.data.toList.take (pos + 1)) = true := by
  rw [okFrom_snoc _ _ (by rw [ba_size]; exact hp), ho, ba_get s pos hp, h]
  rfl
end Go.Proofs.YtbecdijccifllaaDoor
