/- Bit operations on int64: signs and masks. -/
import Derived.Laws.BitsLemmas
namespace Go
theorem wrap_toInt (v : BitVec 64) : IntKind.i64.wrap (v.toNat : Int) = v.toInt := by
  rw [IntKind.wrap_i64, BitVec.toInt_eq_toNat_cond]
  have := v.isLt
  split <;> omega
theorem msb_ofInt64 {x : Int} (h : -9223372036854775808 ≤ x) (h' : x ≤ 9223372036854775807) : (BitVec.ofInt 64 x).msb = decide (x < 0) := by
  rw [BitVec.msb_eq_toInt, BitVec.toInt_ofInt]
  congr 1
  rw [Int.bmod_eq_of_le (by omega) (by omega)]
theorem i64_xor_neg {x y : Int} (h : -9223372036854775808 ≤ x) (h' : x ≤ 9223372036854775807) (k : -9223372036854775808 ≤ y) (k' : y ≤ 9223372036854775807) :
    (bits .xor .i64 x y < 0) ↔ ((x < 0 ∧ 0 ≤ y) ∨ (0 ≤ x ∧ y < 0)) := by
  show IntKind.i64.wrap (((BitVec.ofInt 64 x ^^^ BitVec.ofInt 64 y).toNat : Nat) : Int) < 0 ↔ _
  rw [wrap_toInt]
  have e := BitVec.msb_eq_toInt (x := BitVec.ofInt 64 x ^^^ BitVec.ofInt 64 y)
  rw [BitVec.msb_xor, msb_ofInt64 h h', msb_ofInt64 k k'] at e
  have : ((BitVec.ofInt 64 x ^^^ BitVec.ofInt 64 y).toInt < 0) ↔ (decide (x < 0) ^^ decide (y < 0)) = true := by rw [e]; simp
  rw [this]
  by_cases a : x < 0 <;> by_cases b : y < 0 <;> simp [a, b] <;> omega
theorem i64_and_neg {x y : Int} (h : -9223372036854775808 ≤ x) (h' : x ≤ 9223372036854775807) (k : -9223372036854775808 ≤ y) (k' : y ≤ 9223372036854775807) :
    (bits .and .i64 x y < 0) ↔ (x < 0 ∧ y < 0) := by
  show IntKind.i64.wrap (((BitVec.ofInt 64 x &&& BitVec.ofInt 64 y).toNat : Nat) : Int) < 0 ↔ _
  rw [wrap_toInt]
  have e := BitVec.msb_eq_toInt (x := BitVec.ofInt 64 x &&& BitVec.ofInt 64 y)
  rw [BitVec.msb_and, msb_ofInt64 h h', msb_ofInt64 k k'] at e
  have : ((BitVec.ofInt 64 x &&& BitVec.ofInt 64 y).toInt < 0) ↔ (decide (x < 0) && decide (y < 0)) = true := by rw [e]; simp
  rw [this]
  by_cases a : x < 0 <;> by_cases b : y < 0 <;> simp [a, b]
theorem i64_bits_bd (op : BinOp) (x y : Int) : -9223372036854775808 ≤ bits op .i64 x y ∧ bits op .i64 x y ≤ 9223372036854775807 := by
  unfold bits; rw [IntKind.wrap_i64]; omega
/-- Plus's test: the sign of both operands differs from the sum's -/
theorem over_test {a b s : Int} (h : -9223372036854775808 ≤ a) (h' : a ≤ 9223372036854775807) (k : -9223372036854775808 ≤ b) (k' : b ≤ 9223372036854775807)
    (l : -9223372036854775808 ≤ s) (l' : s ≤ 9223372036854775807) :
    (bits .and .i64 (bits .xor .i64 a s) (bits .xor .i64 b s) < 0) ↔ ((a < 0 ∧ b < 0 ∧ 0 ≤ s) ∨ (0 ≤ a ∧ 0 ≤ b ∧ s < 0)) := by
  rw [i64_and_neg (i64_bits_bd _ _ _).1 (i64_bits_bd _ _ _).2 (i64_bits_bd _ _ _).1 (i64_bits_bd _ _ _).2, i64_xor_neg h h' l l', i64_xor_neg k k' l l']
  omega
theorem i64_and_mask (n : Int) (i : Nat) (hi : i ≤ 63) : bits .and .i64 n (2 ^ i - 1) = n % 2 ^ i := by
  have hp : (2 : Int) ^ i ≤ 2 ^ 63 := by
    have := Nat.pow_le_pow_right (n := 2) (by decide) hi; exact_mod_cast this
  have hp' : 2 ^ i ≤ 2 ^ 63 := Nat.pow_le_pow_right (n := 2) (by decide) hi
  have h0 : 0 < 2 ^ i := Nat.two_pow_pos i
  have hm : (BitVec.ofInt 64 (2 ^ i - 1)).toNat = 2 ^ i - 1 := by
    rw [BitVec.toNat_ofInt]
    have : ((2 : Int) ^ i - 1) = ((2 ^ i - 1 : Nat) : Int) := by rw [Int.natCast_sub h0]; simp
    rw [this]; omega
  have key : (BitVec.ofInt 64 n &&& BitVec.ofInt 64 (2 ^ i - 1)).toNat = (n % ((2 ^ 64 : Nat) : Int)).toNat % 2 ^ i := by
    rw [BitVec.toNat_and, BitVec.toNat_ofInt, hm, Nat.and_two_pow_sub_one_eq_mod]
  show IntKind.i64.wrap ((BitVec.ofInt 64 n &&& BitVec.ofInt 64 (2 ^ i - 1)).toNat : Nat) = n % 2 ^ i
  rw [key, IntKind.wrap_i64]
  have e : (((n % ((2 ^ 64 : Nat) : Int)).toNat % 2 ^ i : Nat) : Int) = n % 2 ^ i := by
    have t : ((n % ((2 ^ 64 : Nat) : Int)).toNat : Int) = n % ((2 ^ 64 : Nat) : Int) := Int.toNat_of_nonneg (Int.emod_nonneg _ (by decide))
    rw [Int.natCast_emod, t]
    have d : ((2 ^ i : Nat) : Int) ∣ ((2 ^ 64 : Nat) : Int) := by exact_mod_cast Nat.pow_dvd_pow 2 (by omega : i ≤ 64)
    rw [Int.emod_emod_of_dvd _ d]; simp
  rw [e]
  have h0' : (0 : Int) < 2 ^ i := by exact_mod_cast h0
  have b1 := Int.emod_nonneg n (show (2 : Int) ^ i ≠ 0 by omega)
  have b2 := Int.emod_lt_of_pos n h0'
  have e63 : (2 : Int) ^ 63 = 9223372036854775808 := by decide
  omega
theorem i64_and1 (n : Int) : bits .and .i64 n 1 = n % 2 := i64_and_mask n 1 (by omega)
theorem i64_and_max (n : Int) : bits .and .i64 n 9223372036854775807 = n % 9223372036854775808 := i64_and_mask n 63 (by omega)
end Go
