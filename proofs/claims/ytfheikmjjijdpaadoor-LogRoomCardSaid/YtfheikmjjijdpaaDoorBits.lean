/-
  Plain laws of 64 bits: a number's last bit; a number's high part put beside its low byte. No condition but the ranges that are named.
-/
import Derived.Test.YtfheikmjjijdpaaDoorMem
import Derived.Laws.BitsLemmas
namespace Go.Proofs.YtfheikmjjijdpaaDoor

theorem i64_and_mask (n : Int) (k : Nat) (hk : k ≤ 62) : bits .and .i64 n ((2 ^ k - 1 : Nat) : Int) = n % ((2 ^ k : Nat) : Int) := by
  have hlt : 2 ^ k - 1 < 2 ^ 64 := Nat.lt_of_lt_of_le (Nat.sub_lt (Nat.two_pow_pos k) (by omega)) (Nat.pow_le_pow_right (by omega) (by omega))
  have hm : (BitVec.ofInt 64 ((2 ^ k - 1 : Nat) : Int)).toNat = 2 ^ k - 1 := by
    rw [BitVec.toNat_ofInt]
    have : (((2 ^ k - 1 : Nat) : Int) % ((2 ^ 64 : Nat) : Int)) = ((2 ^ k - 1 : Nat) : Int) := Int.emod_eq_of_lt (Int.natCast_nonneg _) (by exact_mod_cast hlt)
    rw [this]; simp
  have key : (BitVec.ofInt 64 n &&& BitVec.ofInt 64 ((2 ^ k - 1 : Nat) : Int)).toNat = (n % ((2 ^ 64 : Nat) : Int)).toNat % 2 ^ k := by
    rw [BitVec.toNat_and, BitVec.toNat_ofInt n, hm, Nat.and_two_pow_sub_one_eq_mod]
  show IntKind.i64.wrap ((BitVec.ofInt 64 n &&& BitVec.ofInt 64 ((2 ^ k - 1 : Nat) : Int)).toNat : Nat) = _
  rw [key, IntKind.wrap_i64]
  have h0 : 0 ≤ n % ((2 ^ 64 : Nat) : Int) := Int.emod_nonneg _ (by decide)
  have h1 : (((n % ((2 ^ 64 : Nat) : Int)).toNat % 2 ^ k : Nat) : Int) = n % ((2 ^ k : Nat) : Int) := by
    rw [Int.natCast_emod, Int.toNat_of_nonneg h0]
    exact Int.emod_emod_of_dvd n (by exact_mod_cast Nat.pow_dvd_pow 2 (by omega))
  rw [h1]
  have h2 : 0 ≤ n % ((2 ^ k : Nat) : Int) := Int.emod_nonneg _ (by have := Nat.two_pow_pos k; omega)
  have h3 : n % ((2 ^ k : Nat) : Int) < ((2 ^ k : Nat) : Int) := Int.emod_lt_of_pos _ (by have := Nat.two_pow_pos k; omega)
  have h4 : 2 ^ k ≤ 2 ^ 62 := Nat.pow_le_pow_right (by omega) hk
  omega
theorem i64_and1 (n : Int) : bits .and .i64 n 1 = n % 2 := i64_and_mask n 1 (by omega)
theorem i64_and1023 (n : Int) : bits .and .i64 n 1023 = n % 1024 := i64_and_mask n 10 (by omega)
theorem i64_and65535 (n : Int) : bits .and .i64 n 65535 = n % 65536 := i64_and_mask n 16 (by omega)

/-- The low byte beside what stands above it. -/
theorem i64_or_low (n c : Int) (h0 : 0 ≤ c) (h1 : c < 256) : bits .or .i64 (IntKind.i64.wrap (n * 256)) c = IntKind.i64.wrap (n * 256 + c) := by
  have hmod : ∀ x : Int, BitVec.ofInt 64 (IntKind.i64.wrap x) = BitVec.ofInt 64 x := fun x => by
    apply BitVec.eq_of_toNat_eq
    rw [BitVec.toNat_ofInt, BitVec.toNat_ofInt, IntKind.wrap_i64]
    congr 1
    omega
  have hx : (BitVec.ofInt 64 (n * 256)).toNat = 256 * ((n % ((2 ^ 56 : Nat) : Int)).toNat) := by
    rw [BitVec.toNat_ofInt]
    omega
  have hy : (BitVec.ofInt 64 c).toNat = c.toNat := by
    rw [BitVec.toNat_ofInt]
    omega
  have key : (BitVec.ofInt 64 (IntKind.i64.wrap (n * 256)) ||| BitVec.ofInt 64 c).toNat = 256 * ((n % ((2 ^ 56 : Nat) : Int)).toNat) + c.toNat := by
    rw [BitVec.toNat_or, hmod, hx, hy]
    have := Nat.two_pow_add_eq_or_of_lt (i := 8) (b := c.toNat) (by omega) ((n % ((2 ^ 56 : Nat) : Int)).toNat)
    exact this.symm
  show IntKind.i64.wrap ((BitVec.ofInt 64 (IntKind.i64.wrap (n * 256)) ||| BitVec.ofInt 64 c).toNat : Nat) = _
  rw [key, IntKind.wrap_i64, IntKind.wrap_i64]
  omega
end Go.Proofs.YtfheikmjjijdpaaDoor
