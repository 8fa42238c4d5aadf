/-
  The document's Right (storemanref13): whether a command is right. No condition but numbers.
-/
import Derived.Test.YtglojnmcbochaaaGreatDoorSAskF
import Derived.Test.YtglojnmcbochaaaGreatDoorSAskN
import Derived.StillTailTactics
import Derived.Deep.CutRange
namespace Go.Proofs.YtglojnmcbochaaaGreatDoor
open Go.RowKit Go.Maps
set_option linter.unusedVariables false
set_option linter.unusedSimpArgs false

def hasZ (f : List Nat) (z : Int) : Bool := f.any fun c => ((c : Nat) : Int) == z
set_option maxRecDepth 100000 in
set_option maxHeartbeats 1000000 in
theorem hasZ_any (f : List Nat) (hf : f ∈ kindsL) (z : Int) (hz : isByte z) (w : World) : Calls Tryz.prog 108 #[.string (fBA f), .int .u8 z] w (RetSame (.bool (hasZ f z)) w) := by
  have hl := (kinds_letters hf).1
  have hsz := fBA_size f
  have hszi : ((fBA f).size : Int) = (f.length : Int) := by rw [hsz]
  generalize hbc : hasZ f z = bc
  have hbc' := Lib.hid hbc
  clear hbc
  go_enter Tryz.func108, Tryz.ntmps108
  go_wp2
  go_loop [5] (fun i => ∃ j : Nat, j ≤ f.length ∧ i = .int .i64 j ∧ hasZ (f.take j) z = false) (fun i => f.length - (intOf i).toNat)
  case atStart => exact ⟨0, Nat.zero_le _, rfl, rfl⟩
  case round =>
    obtain ⟨j, hj, rfl, hn⟩ := hrel
    have hn' := Lib.hid hn
    clear hn
    by_cases hlt : j < f.length
    · have hp : j < (fBA f).size := by omega
      obtain ⟨d, hdm, hdv, htk, hd128⟩ := letter_at hf hp
      have htk' := Lib.hid htk
      clear htk
      have hji : (j : Int) < (f.length : Int) := by omega
      generalize hg : ((fBA f)[j]'hp).toNat = d' at hdv
      subst hdv
      have hg' := Lib.hid hg
      by_cases he : (d' : Int) = z
      · have hy := Lib.hid (show bc = true from by
          rw [← hbc'.out]
          unfold hasZ
          rw [List.any_eq_true]
          exact ⟨d', List.mem_of_mem_take (i := j + 1) (by rw [htk'.out]; simp), by simpa using he⟩)
        have heb : ((d' : Int) == z) = true := by simpa using he
        clear he
        go_wp2
        go_ret
        exact ⟨ret_bool hy.out.symm, rfl⟩
      · have hne : ((d' : Int) == z) = false := by rw [beq_eq_false_iff_ne]; exact he
        have hne' := Lib.hid hne
        go_wp2
        go_round
        case rel =>
          refine ⟨j + 1, hlt, by go_num, ?_⟩
          rw [htk'.out]
          have h1 := hn'.out
          unfold hasZ at h1 ⊢
          rw [List.any_append, h1]
          simp [hne'.out]
        case measure => simp [intOf]; omega
    · have hjn : j = f.length := by omega
      have hge : (f.length : Int) ≤ (j : Int) := by omega
      have hno := Lib.hid (show bc = false from by
        have h1 := hn'.out
        rw [hjn, List.take_length] at h1
        rw [← hbc'.out]
        exact h1)
      clear hjn
      go_wp2
      go_ret
      exact ⟨ret_bool hno.out.symm, rfl⟩
end Go.Proofs.YtglojnmcbochaaaGreatDoor

