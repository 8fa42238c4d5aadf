/-
  TurnBytes: each byte is turned; what they are then is not told.
-/
import Derived.Test.YtmblonmpiomjgaaGreatCpyR
namespace Go.Proofs.YtmblonmpiomjgaaGreat
open Go.RowKit Go.Maps

set_option maxRecDepth 100000 in
set_option maxHeartbeats 400000 in
theorem turn_bytes (n g cap : Nat) (zs : List Int) (w : World) (hr : RowB w 5 g n cap zs) (hn : n ≤ 1000000) :
    Calls Tryz.prog 14 #[.slice (some ⟨g, 0, none⟩) n cap] w (OverPost g n cap w) := by
  have hle := hr.le
  have hmx := hr.max
  unfold maxLen at hmx
  have hr' := Lib.hid hr
  clear hr
  go_enter Tryz.func14, Tryz.ntmps14
  go_wp2
  go_loopw [2] (fun i wr => OverRel g n cap w i wr) (fun i _ => n - (intOf i).toNat)
  case atStart => exact ⟨0, by omega, rfl, ⟨_, hr'.out⟩, Turned.refl _ _⟩
  case round =>
    obtain ⟨j, hj, rfl, ⟨ys, hr⟩, ht⟩ := hrel
    have hry := Lib.hid hr
    by_cases hlt : j < n
    · have hji : (j : Int) < (n : Int) := by omega
      have hc := hr.cell hlt
      have hf := hr.frozen j
      clear hr
      go_wp2
      go_roundw
      case rel =>
        first
        | exact ⟨j + 1, by omega, by go_num, ⟨_, hry.out.set j _⟩, ht.setCell (.inl rfl) _⟩
        | ((repeat apply Exists.intro); exact ⟨⟨j + 1, by omega, by go_num, ⟨_, hry.out.set j _⟩, ht.setCell (.inl rfl) _⟩, rfl⟩)
      case measure => simp [intOf]; omega
    · have hge : (n : Int) ≤ (j : Int) := by omega
      clear hr
      go_wp2
      go_end0
      exact ⟨rfl, ⟨ys, hry.out⟩, ht⟩
end Go.Proofs.YtmblonmpiomjgaaGreat
