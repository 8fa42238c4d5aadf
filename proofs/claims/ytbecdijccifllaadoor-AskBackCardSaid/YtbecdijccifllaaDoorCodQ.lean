/-
  Codes, plain: what is put is got, and what is got is put. No program in sight.
-/
import Derived.Test.YtbecdijccifllaaDoorCodD
namespace Go.Proofs.YtbecdijccifllaaDoor

theorem toB_ints (l : List UInt8) : toB (ints l) = l := by
  unfold toB ints
  rw [List.map_map]
  have : (fun n : Int => UInt8.ofNat n.toNat) ∘ (fun c : UInt8 => (c.toNat : Int)) = id := by
    funext c
    simp
  rw [this, List.map_id]
theorem ints_toB (zs : List Int) (h : ∀ z ∈ zs, isByte z) : ints (toB zs) = zs := by
  unfold toB ints
  rw [List.map_map]
  conv => rhs; rw [← List.map_id zs]
  apply List.map_congr_left
  intro z hz
  have := h z hz
  unfold isByte at this
  simp
  omega
theorem ints_byte (l : List UInt8) : ∀ z ∈ ints l, isByte z := by
  intro z hz
  obtain ⟨c, _, rfl⟩ := List.mem_map.1 hz
  have := c.toNat_lt
  unfold isByte
  omega
theorem putL_ok {l : List UInt8} (h : putOk l = true) : putL l = (l.length : Int) :: ints l := by unfold putL; rw [if_pos h]
theorem putL_no {l : List UInt8} (h : putOk l = false) : putL l = [] := by unfold putL; rw [h]; rfl
theorem putL_byte (l : List UInt8) : ∀ z ∈ putL l, isByte z := by
  intro z hz
  cases h : putOk l with
  | false => rw [putL_no h] at hz; cases hz
  | true =>
    rw [putL_ok h] at hz
    rcases List.mem_cons.1 hz with rfl | hz
    · have := putOk_len h
      unfold isByte
      omega
    · exact ints_byte l z hz
theorem get_put {l : List UInt8} (h : putOk l = true) (zs : List Int) : getL (putL l ++ zs) = some l := by
  rw [putL_ok h, List.cons_append, getL_cons, if_neg (by rw [List.length_append, ints_length]; omega)]
  rw [List.take_left' (ints_length l), toB_ints, if_pos h]
theorem put_get {zs : List Int} {l : List UInt8} (hb : ∀ z ∈ zs, isByte z) (h : getL zs = some l) : putOk l = true ∧ 1 + l.length ≤ zs.length ∧ putL l = zs.take (1 + l.length) := by
  cases zs with
  | nil => cases h
  | cons z r =>
    have hz := hb z (by simp)
    unfold isByte at hz
    obtain ⟨k, rfl⟩ : ∃ k : Nat, z = (k : Int) := ⟨z.toNat, by omega⟩
    rw [getL_cons] at h
    split at h
    · cases h
    · split at h
      · rename_i hk hp
        injection h with h
        have hl : l.length = k := by rw [← h, toB_length, List.length_take]; omega
        rw [h] at hp
        refine ⟨hp, by rw [hl, List.length_cons]; omega, ?_⟩
        rw [putL_ok hp, hl, show 1 + k = k + 1 by omega, List.take_succ_cons, ← h, ints_toB _ (fun x hx => hb x (by simp [List.mem_of_mem_take hx]))]
      · cases h
end Go.Proofs.YtbecdijccifllaaDoor
