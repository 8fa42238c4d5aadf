/-
  Numbers as texts, plain: what strconv.ParseInt and FormatInt tell at base 10, held against the document's reading. No program in sight.
-/
import Derived.Lib.AtoiAllCases
import Derived.Lib.ItoaNum
namespace Go.Proofs.YtglojnmcbochaaaGreatDoor
open Go.Lib

def int64 (v : Int) : Prop := -9223372036854775808 ≤ v ∧ v ≤ 9223372036854775807
/-- The number that a text says. -/
def numL (l : List UInt8) : Option Int :=
  match atoiAll l with
  | .ok v => if itoa v = l then some v else none
  | _ => none

def digB (c : UInt8) : Prop := 48 ≤ c.toNat ∧ c.toNat ≤ 57
instance (c : UInt8) : Decidable (digB c) := by unfold digB; infer_instance
def vstep (a : Nat) (c : UInt8) : Nat := a * 10 + (c.toNat - 48)
theorem vstep_eq (a : Nat) (c : UInt8) : vstep a c = a * 10 + (c.toNat - 48) := by unfold vstep; rfl
def valF (acc : Nat) (d : List UInt8) : Nat := d.foldl vstep acc
theorem valF_nil (acc : Nat) : valF acc [] = acc := by unfold valF; rw [List.foldl_nil]
theorem valF_cons (acc : Nat) (c : UInt8) (r : List UInt8) : valF acc (c :: r) = valF (acc * 10 + (c.toNat - 48)) r := by unfold valF; rw [List.foldl_cons, vstep_eq]
theorem valF_append (a b : List UInt8) (acc : Nat) : valF acc (a ++ b) = valF (valF acc a) b := by unfold valF; rw [List.foldl_append]
theorem valF_one (acc : Nat) (c : UInt8) : valF acc [c] = acc * 10 + (c.toNat - 48) := by rw [valF_cons, valF_nil]
theorem dig_ofNat (d : Nat) (h : d < 10) : (UInt8.ofNat (48 + d)).toNat = 48 + d := by
  simp; omega
theorem decDigits_dig (u : Nat) : ∀ c ∈ decDigits u, digB c := by
  induction u using Nat.strongRecOn with
  | _ u ih =>
    intro c hc
    rw [decDigits] at hc
    split at hc
    · rw [List.mem_singleton] at hc
      subst hc
      unfold digB
      rw [dig_ofNat _ (by omega)]
      omega
    · rcases List.mem_append.1 hc with hc | hc
      · exact ih (u / 10) (by omega) c hc
      · rw [List.mem_singleton] at hc
        subst hc
        unfold digB
        rw [dig_ofNat _ (by omega)]
        omega
theorem decDigits_val (u : Nat) : valF 0 (decDigits u) = u := by
  induction u using Nat.strongRecOn with
  | _ u ih =>
    by_cases h : u < 10
    · rw [decDigits, dif_pos h, valF_one, dig_ofNat _ h]
      omega
    · rw [decDigits, dif_neg h, valF_append, ih (u / 10) (by omega), valF_one, dig_ofNat _ (by omega)]
      omega
theorem decDigits_ne (u : Nat) : decDigits u ≠ [] := by
  intro h
  have h1 := decDigits_length u
  have h2 := nDigits_pos u
  rw [h, List.length_nil] at h1
  omega
/-- Digits without a nought ahead, or the nought alone, are the digits of what they say. -/
theorem decDigits_of (d : List UInt8) (h0 : d ≠ []) (hd : ∀ c ∈ d, digB c) (hz : d.head? = some 48 → d.length = 1) : decDigits (valF 0 d) = d := by
  induction hn : d.length using Nat.strongRecOn generalizing d with
  | _ n ih =>
    rcases List.eq_nil_or_concat d with e | ⟨r, c, e⟩
    · exact absurd e h0
    · rw [List.concat_eq_append] at e
      subst e
      have hc : digB c := hd c (by simp)
      have hcv : UInt8.ofNat (48 + (c.toNat - 48)) = c := by
        unfold digB at hc
        apply UInt8.toNat_inj.1
        rw [dig_ofNat _ (by omega)]
        omega
      by_cases hr : r = []
      · subst hr
        unfold digB at hc
        rw [List.nil_append, valF_one, decDigits, dif_pos (by omega), Nat.zero_mul, Nat.zero_add, hcv]
      · have h1 := ih r.length (by simp at hn; omega) r hr (fun x hx => hd x (by simp [hx])) (fun e => by
          have h2 := hz (by
            cases r with
            | nil => exact absurd rfl hr
            | cons x y => simpa using e)
          simp at h2
          exact absurd (by cases r <;> simp_all) hr) rfl
        have hpos : 1 ≤ valF 0 r := by
          rcases Nat.eq_zero_or_pos (valF 0 r) with e | e
          · exfalso
            rw [e, decDigits, dif_pos (by omega)] at h1
            have h2 := hz (by rw [← h1]; rfl)
            rw [← h1] at h2
            simp at h2
          · exact e
        rw [valF_append, valF_one]
        unfold digB at hc
        rw [decDigits, dif_neg (by omega), show (valF 0 r * 10 + (c.toNat - 48)) / 10 = valF 0 r by omega, h1, show (valF 0 r * 10 + (c.toNat - 48)) % 10 = c.toNat - 48 by omega, hcv]
theorem valF_ge (d : List UInt8) (acc : Nat) : acc ≤ valF acc d := by
  induction d generalizing acc with
  | nil => rw [valF_nil]; exact Nat.le_refl _
  | cons c r ih => rw [valF_cons]; exact Nat.le_trans (by omega) (ih (acc * 10 + (c.toNat - 48)))
theorem parse_ok (d : List UInt8) (acc : Nat) (hd : ∀ c ∈ d, digB c) (h : valF acc d < 18446744073709551616) : parseUint10 acc d = .ok (valF acc d) := by
  induction d generalizing acc with
  | nil => rw [valF_nil]; rfl
  | cons c r ih =>
    have h2 : digB c := hd c (by simp)
    have h3 := valF_ge r (acc * 10 + (c.toNat - 48))
    rw [valF_cons] at h ⊢
    unfold digB at h2
    rw [parseUint10, if_pos h2, if_neg (by omega), if_neg (by omega)]
    exact ih _ (fun x hx => hd x (by simp [hx])) h
/-- What a number's text says is the number. -/
theorem atoi_itoa (v : Int) (h : int64 v) : atoiAll (itoa v) = .ok v := by
  unfold int64 at h
  unfold itoa
  by_cases hn : v < 0
  · rw [if_pos hn, atoiAll_minus]
    unfold parseMag
    rw [if_neg (decDigits_ne _), parse_ok _ _ (decDigits_dig _) (by rw [decDigits_val]; omega), decDigits_val]
    simp only [signed]
    rw [if_neg (by omega)]
    congr 1
    omega
  · rw [if_neg hn]
    have hne := decDigits_ne v.toNat
    have hdg := decDigits_dig v.toNat
    have hv := decDigits_val v.toNat
    generalize decDigits v.toNat = d at hne hdg hv
    cases d with
    | nil => exact absurd rfl hne
    | cons c r =>
      have hc : digB c := hdg c (by simp)
      unfold digB at hc
      rw [atoiAll_plain c r (by omega) (by omega)]
      unfold parseMag
      rw [if_neg hne, parse_ok _ _ hdg (by rw [hv]; omega), hv]
      simp only [signless]
      rw [if_neg (by omega)]
      congr 1
      omega
theorem numL_itoa (v : Int) (h : int64 v) : numL (itoa v) = some v := by
  unfold numL
  rw [atoi_itoa v h]
  simp
theorem numL_some {l : List UInt8} {v : Int} (h : numL l = some v) : itoa v = l ∧ int64 v := by
  unfold numL at h
  split at h
  · rename_i v' hv'
    split at h
    · rename_i he
      injection h with h
      subst h
      exact ⟨he, atoiAll_bounds hv'⟩
    · cases h
  · cases h

/-! the document's reading -/
def refMag (neg : Bool) (d : List UInt8) : Option Int :=
  if d.length = 0 ∨ 19 < d.length ∨ (d.head? = some 48 ∧ (1 < d.length ∨ neg = true)) then none
  else if ∀ c ∈ d, digB c then
    (if neg = true ∧ valF 0 d ≤ 9223372036854775808 then some (-(valF 0 d : Int)) else if neg = false ∧ valF 0 d < 9223372036854775808 then some (valF 0 d : Int) else none)
  else none
def refNum (l : List UInt8) : Option Int := if l.head? = some 45 then refMag true l.tail else refMag false l
theorem nDigits_le (u k : Nat) (hk : 1 ≤ k) (h : u < 10 ^ k) : nDigits u ≤ k := by
  induction k generalizing u with
  | zero => omega
  | succ k ih =>
    by_cases hu : u < 10
    · rw [nDigits_small hu]; omega
    · rw [nDigits_big hu]
      have : 1 ≤ k := by
        rcases Nat.eq_zero_or_pos k with e | e
        · subst e; simp at h; omega
        · exact e
      have := ih (u / 10) this (by rw [Nat.pow_succ] at h; omega)
      omega
theorem decDigits_head (u : Nat) (h : (decDigits u).head? = some 48) : u = 0 := by
  induction u using Nat.strongRecOn with
  | _ u ih =>
    rw [decDigits] at h
    split at h
    · simp only [List.head?_cons, Option.some.injEq] at h
      have h2 := congrArg UInt8.toNat h
      rw [dig_ofNat _ (by omega)] at h2
      have : (48 : UInt8).toNat = 48 := rfl
      omega
    · rename_i hu
      have hne := decDigits_ne (u / 10)
      have h2 : (decDigits (u / 10)).head? = some 48 := by
        generalize decDigits (u / 10) = d at hne h
        cases d with
        | nil => exact absurd rfl hne
        | cons c r => simpa using h
      have := ih (u / 10) (by omega) h2
      omega
theorem refMag_digits (neg : Bool) (u : Nat) (h : if neg = true then 1 ≤ u ∧ u ≤ 9223372036854775808 else u < 9223372036854775808) : refMag neg (decDigits u) = some (if neg = true then -(u : Int) else u) := by
  have h1 := decDigits_length u
  have h2 := nDigits_pos u
  have h3 : nDigits u ≤ 19 := nDigits_le u 19 (by omega) (by split at h <;> omega)
  unfold refMag
  rw [if_neg, if_pos (decDigits_dig u), decDigits_val]
  · cases neg with
    | true =>
      simp only [if_true] at h ⊢
      simp [h.2]
    | false =>
      simp only [Bool.false_eq_true, if_false] at h ⊢
      simp [h]
  · rintro (e | e | ⟨e, e2⟩)
    · omega
    · omega
    · have h0 := decDigits_head u e
      subst h0
      rcases e2 with e2 | e2
      · rw [h1, nDigits_small (by omega)] at e2; omega
      · subst e2; simp at h
theorem refNum_itoa (v : Int) (h : int64 v) : refNum (itoa v) = some v := by
  unfold int64 at h
  unfold refNum itoa
  by_cases hn : v < 0
  · rw [if_pos hn]
    simp only [List.head?_cons, if_true, List.tail_cons]
    rw [refMag_digits true v.natAbs (by simp only [if_true]; omega)]
    simp only [if_true]
    congr 1
    omega
  · rw [if_neg hn, if_neg]
    · rw [refMag_digits false v.toNat (by simp only [Bool.false_eq_true, if_false]; omega)]
      simp only [Bool.false_eq_true, if_false]
      congr 1
      omega
    · intro e
      have := decDigits_dig v.toNat 45 (List.mem_of_mem_head? e)
      unfold digB at this
      have e2 : (45 : UInt8).toNat = 45 := rfl
      omega
theorem refMag_some {neg : Bool} {d : List UInt8} {v : Int} (h : refMag neg d = some v) : d ≠ [] ∧ (∀ c ∈ d, digB c) ∧ decDigits (valF 0 d) = d ∧ (if neg = true then v = -(valF 0 d : Int) ∧ 1 ≤ valF 0 d ∧ valF 0 d ≤ 9223372036854775808 else v = valF 0 d ∧ valF 0 d < 9223372036854775808) := by
  unfold refMag at h
  split at h
  · cases h
  · rename_i hc
    split at h
    · rename_i hd
      have hne : d ≠ [] := fun e => hc (.inl (by rw [e]; rfl))
      have hof := decDigits_of d hne hd (fun e => by
        rcases Nat.lt_or_ge 1 d.length with h1 | h1
        · exact absurd (.inr (.inr ⟨e, .inl h1⟩)) hc
        · have : d.length ≠ 0 := fun e => hc (.inl e)
          omega)
      refine ⟨hne, hd, hof, ?_⟩
      cases neg with
      | true =>
        simp only [if_true, true_and] at h ⊢
        split at h
        · rename_i h2
          injection h with h
          refine ⟨h.symm, ?_, h2⟩
          rcases Nat.eq_zero_or_pos (valF 0 d) with e | e
          · exfalso
            rw [e, decDigits, dif_pos (by omega)] at hof
            exact hc (.inr (.inr ⟨by rw [← hof]; rfl, .inr rfl⟩))
          · exact e
        · simp at h
      | false =>
        simp only [Bool.false_eq_true, if_false, false_and, true_and] at h ⊢
        split at h
        · rename_i h2
          injection h with h
          exact ⟨h.symm, h2⟩
        · cases h
    · cases h
theorem refNum_some {l : List UInt8} {v : Int} (h : refNum l = some v) : itoa v = l ∧ int64 v := by
  unfold refNum at h
  split at h
  · rename_i hh
    obtain ⟨h0, h1, h2, h3⟩ := refMag_some h
    simp only [if_true] at h3
    obtain ⟨rfl, h4, h5⟩ := h3
    cases l with
    | nil => simp at hh
    | cons c r =>
      simp only [List.head?_cons, Option.some.injEq] at hh
      subst hh
      simp only [List.tail_cons] at h2 h4 h5 ⊢
      refine ⟨?_, by unfold int64; omega⟩
      unfold itoa
      rw [if_pos (by omega), show (-(valF 0 r : Int)).natAbs = valF 0 r by omega, h2]
  · obtain ⟨h0, h1, h2, h3⟩ := refMag_some h
    simp only [Bool.false_eq_true, if_false] at h3
    obtain ⟨rfl, h4⟩ := h3
    refine ⟨?_, by unfold int64; omega⟩
    unfold itoa
    rw [if_neg (by omega)]
    exact h2
/-- The two readings are one. -/
theorem refNum_eq (l : List UInt8) : refNum l = numL l := by
  cases h : numL l with
  | some v =>
    obtain ⟨h1, h2⟩ := numL_some h
    rw [← h1]
    exact refNum_itoa v h2
  | none =>
    cases h2 : refNum l with
    | none => rfl
    | some v =>
      obtain ⟨h3, h4⟩ := refNum_some h2
      rw [← h3, numL_itoa v h4] at h
      cases h
end Go.Proofs.YtglojnmcbochaaaGreatDoor

