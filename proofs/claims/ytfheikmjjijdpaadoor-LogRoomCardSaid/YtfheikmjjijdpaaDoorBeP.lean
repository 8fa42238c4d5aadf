/-
  Numbers in so many bytes, the highest first, and readers of bytes, plain. No program in sight; no condition but the ranges that are named.
-/
import Derived.Test.YtfheikmjjijdpaaDoorBits
import Derived.Test.YtfheikmjjijdpaaDoorSec
namespace Go.Proofs.YtfheikmjjijdpaaDoor

def I64 (n : Int) : Prop := -9223372036854775808 ≤ n ∧ n ≤ 9223372036854775807
def beAt (k : Nat) (z : Int) (t : Nat) : Int := z / 2 ^ (8 * (k - 1 - t)) % 256
def beTo (k : Nat) (z : Int) (n : Nat) : List Int := (List.range n).map (beAt k z)
/-- z in k bytes. -/
def be (k : Nat) (z : Int) : List Int := beTo k z k
theorem beTo_length (k : Nat) (z : Int) (n : Nat) : (beTo k z n).length = n := by simp [beTo]
theorem be_length (k : Nat) (z : Int) : (be k z).length = k := beTo_length k z k
theorem beTo_succ (k : Nat) (z : Int) (n : Nat) : beTo k z (n + 1) = beTo k z n ++ [beAt k z n] := by simp [beTo, List.range_succ]
theorem beAt_byte (k : Nat) (z : Int) (t : Nat) : isByte (beAt k z t) := by
  unfold isByte beAt
  generalize z / _ = x
  omega
theorem be_byte (k : Nat) (z : Int) : ∀ x ∈ be k z, isByte x := by
  intro x hx
  obtain ⟨t, _, rfl⟩ := List.mem_map.1 hx
  exact beAt_byte k z t
theorem two_pow_add8 (m : Nat) : (2 : Int) ^ (m + 8) = 2 ^ m * 256 := by
  rw [Int.pow_add]
  rfl
theorem two_pow_pos (m : Nat) : (0 : Int) < 2 ^ m := Int.pow_pos (by decide)
theorem div_pow8 (z : Int) (m : Nat) : z / 2 ^ (m + 8) = z / 2 ^ m / 256 := by
  rw [two_pow_add8]
  have := two_pow_pos m
  rw [Int.ediv_ediv_of_nonneg (by omega)]
/-- The number that bytes say, wrapped as an int64 at each step. -/
def decN (l : List Int) : Int := l.foldl (fun a c => IntKind.i64.wrap (a * 256 + c)) 0
theorem decN_snoc (l : List Int) (c : Int) : decN (l ++ [c]) = IntKind.i64.wrap (decN l * 256 + c) := by simp [decN, List.foldl_append]
theorem decN_bounds (l : List Int) : I64 (decN l) := by
  unfold I64
  rcases List.eq_nil_or_concat l with rfl | ⟨l', c, rfl⟩
  · unfold decN; simp
  · rw [List.concat_eq_append, decN_snoc, IntKind.wrap_i64]
    omega
theorem decN_beTo (k : Nat) (z : Int) (h0 : 0 ≤ z) (h1 : z < 2 ^ (8 * k)) (h2 : z < 9223372036854775808) : ∀ n, n ≤ k → decN (beTo k z n) = z / 2 ^ (8 * (k - n))
  | 0, _ => by
    rw [show beTo k z 0 = [] from rfl, Nat.sub_zero, Int.ediv_eq_zero_of_lt h0 h1]
    rfl
  | n + 1, hn => by
    rw [beTo_succ, decN_snoc, decN_beTo k z h0 h1 h2 n (by omega)]
    unfold beAt
    have e : 8 * (k - n) = 8 * (k - 1 - n) + 8 := by omega
    rw [e, div_pow8, show 8 * (k - (n + 1)) = 8 * (k - 1 - n) by omega]
    have hp := two_pow_pos (8 * (k - 1 - n))
    have hq : 0 ≤ z / 2 ^ (8 * (k - 1 - n)) := Int.ediv_nonneg h0 (by omega)
    have hr : z / 2 ^ (8 * (k - 1 - n)) ≤ z := Int.ediv_le_self _ h0
    rw [IntKind.wrap_i64]
    generalize z / 2 ^ (8 * (k - 1 - n)) = x at hq hr
    omega
theorem decN_be (k : Nat) (z : Int) (h0 : 0 ≤ z) (h1 : z < 2 ^ (8 * k)) (h2 : z < 9223372036854775808) : decN (be k z) = z := by
  unfold be
  rw [decN_beTo k z h0 h1 h2 k (Nat.le_refl _), Nat.sub_self]
  simp
/-- The same without wrapping. -/
def rawN (l : List Int) : Int := l.foldl (fun a c => a * 256 + c) 0
theorem rawN_snoc (l : List Int) (c : Int) : rawN (l ++ [c]) = rawN l * 256 + c := by simp [rawN, List.foldl_append]
theorem snoc_ind {P : List Int → Prop} (h0 : P []) (h1 : ∀ l c, P l → P (l ++ [c])) : ∀ n (l : List Int), l.length = n → P l
  | 0, l, h => by
    obtain rfl := List.length_eq_zero_iff.1 h
    exact h0
  | n + 1, l, h => by
    rcases List.eq_nil_or_concat l with rfl | ⟨l', c, rfl⟩
    · exact h0
    · rw [List.concat_eq_append] at h ⊢
      rw [List.length_append] at h
      exact h1 l' c (snoc_ind h0 h1 n l' (by simpa using h))
theorem decN_raw (l : List Int) : decN l = IntKind.i64.wrap (rawN l) := by
  refine snoc_ind (P := fun l => decN l = IntKind.i64.wrap (rawN l)) (by decide) (fun l c h => ?_) l.length l rfl
  rw [decN_snoc, rawN_snoc, h, IntKind.wrap_i64, IntKind.wrap_i64, IntKind.wrap_i64]
  omega
theorem rawN_lt (l : List Int) : (∀ z ∈ l, isByte z) → 0 ≤ rawN l ∧ rawN l < 2 ^ (8 * l.length) := by
  refine snoc_ind (P := fun l => (∀ z ∈ l, isByte z) → 0 ≤ rawN l ∧ rawN l < 2 ^ (8 * l.length)) (fun _ => by decide) (fun l c h hb => ?_) l.length l rfl
  obtain ⟨a, b⟩ := h (fun z hz => hb z (by simp [hz]))
  have hc := hb c (by simp)
  unfold isByte at hc
  rw [rawN_snoc, List.length_append, List.length_singleton, show 8 * (l.length + 1) = 8 * l.length + 8 by omega, two_pow_add8]
  omega
theorem decN_small (l : List Int) (hb : ∀ z ∈ l, isByte z) (hl : l.length ≤ 7) : 0 ≤ decN l ∧ decN l < 2 ^ (8 * l.length) ∧ decN l = rawN l := by
  obtain ⟨a, b⟩ := rawN_lt l hb
  have h7 : (2 : Int) ^ (8 * l.length) ≤ 2 ^ 56 := by
    have : (2 : Nat) ^ (8 * l.length) ≤ 2 ^ 56 := Nat.pow_le_pow_right (by omega) (by omega)
    exact_mod_cast this
  have e : decN l = rawN l := by
    rw [decN_raw, IntKind.wrap_i64]
    omega
  rw [e]
  exact ⟨a, b, rfl⟩
theorem beAt_wrap (k : Nat) (z : Int) (t : Nat) (hk : k ≤ 8) (ht : t < k) : beAt k (IntKind.i64.wrap z) t = beAt k z t := by
  unfold beAt
  rw [IntKind.wrap_i64]
  have hs : 8 * (k - 1 - t) ≤ 56 := by omega
  have h8 : k - 1 - t ≤ 7 := by omega
  generalize k - 1 - t = m at h8
  have : m = 0 ∨ m = 1 ∨ m = 2 ∨ m = 3 ∨ m = 4 ∨ m = 5 ∨ m = 6 ∨ m = 7 := by omega
  rcases this with rfl | rfl | rfl | rfl | rfl | rfl | rfl | rfl <;> simp only [Nat.mul_zero, Nat.reduceMul, Int.reducePow] <;> omega
theorem be_wrap (k : Nat) (z : Int) (hk : k ≤ 8) : be k (IntKind.i64.wrap z) = be k z := by
  unfold be beTo
  refine List.map_congr_left fun t ht => beAt_wrap k z t hk (List.mem_range.1 ht)
theorem be_raw (l : List Int) : (∀ z ∈ l, isByte z) → be l.length (rawN l) = l := by
  refine snoc_ind (P := fun l => (∀ z ∈ l, isByte z) → be l.length (rawN l) = l) (fun _ => rfl) (fun l c h hb => ?_) l.length l rfl
  have h' := h (fun z hz => hb z (by simp [hz]))
  have hc := hb c (by simp)
  unfold isByte at hc
  rw [List.length_append, List.length_singleton]
  unfold be
  rw [beTo_succ]
  congr 1
  · conv => rhs; rw [← h']
    unfold be beTo
    refine List.map_congr_left fun t ht => ?_
    have ht' := List.mem_range.1 ht
    unfold beAt
    rw [rawN_snoc, show 8 * (l.length + 1 - 1 - t) = 8 * (l.length - 1 - t) + 8 by omega]
    rw [two_pow_add8, Int.mul_comm (2 ^ _) 256, ← Int.ediv_ediv_of_nonneg (by decide)]
    congr 2
    omega
  · unfold beAt
    rw [rawN_snoc, show 8 * (l.length + 1 - 1 - l.length) = 0 by omega]
    simp
    omega
theorem be_dec (l : List Int) (hb : ∀ z ∈ l, isByte z) (hl : l.length ≤ 8) : be l.length (decN l) = l := by
  rw [decN_raw, be_wrap _ _ hl, be_raw l hb]

/-! Readers: none: bytes were wanting. -/
def takeS (n : Nat) : Option (List Int) → List Int × Option (List Int)
  | none => ([], none)
  | some zs => if zs.length < n then ([], none) else (zs.take n, some (zs.drop n))
def numS (k : Nat) (s : Option (List Int)) : Int × Option (List Int) := (decN (takeS k s).1, (takeS k s).2)
def rowS (s : Option (List Int)) : List Int × Option (List Int) := takeS (numS 1 s).1.toNat (numS 1 s).2
theorem takeS_none (n : Nat) : takeS n none = ([], none) := rfl
theorem numS_none (n : Nat) : numS n none = (0, none) := rfl
theorem rowS_none : rowS none = ([], none) := rfl
theorem takeS_short {n : Nat} {zs : List Int} (h : zs.length < n) : takeS n (some zs) = ([], none) := if_pos h
theorem takeS_some {n : Nat} {zs : List Int} (h : n ≤ zs.length) : takeS n (some zs) = (zs.take n, some (zs.drop n)) := if_neg (by omega)
theorem takeS_app (l r : List Int) : takeS l.length (some (l ++ r)) = (l, some r) := by
  rw [takeS_some (by simp)]
  simp
theorem numS_app (k : Nat) (z : Int) (r : List Int) (h0 : 0 ≤ z) (h1 : z < 2 ^ (8 * k)) (h2 : z < 9223372036854775808) : numS k (some (be k z ++ r)) = (z, some r) := by
  have := takeS_app (be k z) r
  rw [be_length] at this
  unfold numS
  rw [this]
  simp only
  rw [decN_be k z h0 h1 h2]
theorem rowS_app (l r : List Int) (h : l.length ≤ 255) : rowS (some (((l.length : Int) :: l) ++ r)) = (l, some r) := by
  have h1 : be 1 (l.length : Int) = [(l.length : Int)] := by
    unfold be beTo beAt
    simp
    omega
  have h2 := numS_app 1 (l.length : Int) (l ++ r) (by omega) (by simp; omega) (by omega)
  rw [h1, List.singleton_append] at h2
  unfold rowS
  rw [List.cons_append, h2]
  exact takeS_app l r
/-- What a reader took stood ahead. -/
theorem takeS_eq {n : Nat} {s : Option (List Int)} {l zs : List Int} (h : takeS n s = (l, some zs)) : s = some (l ++ zs) ∧ l.length = n := by
  cases s with
  | none => cases h
  | some ys =>
    rcases Nat.lt_or_ge ys.length n with hl | hl
    · rw [takeS_short hl] at h
      cases h
    · rw [takeS_some hl] at h
      injection h with h1 h2
      injection h2 with h2
      subst h1 h2
      exact ⟨by rw [List.take_append_drop], by rw [List.length_take]; omega⟩
theorem numS_eq {k : Nat} {s : Option (List Int)} {z : Int} {zs : List Int} (hk : k ≤ 8) (hb : ∀ ys, s = some ys → ∀ y ∈ ys, isByte y) (h : numS k s = (z, some zs)) : s = some (be k z ++ zs) ∧ I64 z ∧ (k ≤ 7 → 0 ≤ z ∧ z < 2 ^ (8 * k)) := by
  unfold numS at h
  injection h with h1 h2
  obtain ⟨e, hl⟩ := takeS_eq (l := (takeS k s).1) (zs := zs) (by rw [← h2])
  have hbl : ∀ x ∈ (takeS k s).1, isByte x := fun x hx => hb _ e x (by simp [hx])
  generalize (takeS k s).1 = l at *
  subst h1
  refine ⟨?_, decN_bounds l, fun h7 => ?_⟩
  · rw [← hl, be_dec l hbl (by omega)]
    exact e
  · have := decN_small l hbl (by omega)
    rw [hl] at this
    exact ⟨this.1, this.2.1⟩
theorem rowS_eq {s : Option (List Int)} {l zs : List Int} (hb : ∀ ys, s = some ys → ∀ y ∈ ys, isByte y) (h : rowS s = (l, some zs)) : s = some ((((l.length : Int)) :: l) ++ zs) ∧ l.length ≤ 255 := by
  unfold rowS at h
  obtain ⟨e, hl⟩ := takeS_eq h
  obtain ⟨e1, _, h7⟩ := numS_eq (k := 1) (z := (numS 1 s).1) (by omega) hb (by rw [← e])
  have h8 := h7 (by omega)
  simp at h8
  have hz : (numS 1 s).1 = (l.length : Int) := by omega
  rw [hz] at e1
  have h1 : be 1 (l.length : Int) = [(l.length : Int)] := by
    unfold be beTo beAt
    simp
    omega
  rw [h1] at e1
  exact ⟨by rw [e1]; simp, by omega⟩
end Go.Proofs.YtfheikmjjijdpaaDoor
