/- Bit operations on int64: the complement, and a number with bit 6 set. -/
import Derived.Test.YtjakhgcmfpldgaaBits
namespace Go
theorem i64_not {n : Int} (h : -9223372036854775808 ≤ n) (h' : n ≤ 9223372036854775807) : bits .xor .i64 (-1) n = -1 - n := by
  show IntKind.i64.wrap (((BitVec.ofInt 64 (-1) ^^^ BitVec.ofInt 64 n).toNat : Nat) : Int) = _
  rw [wrap_toInt]
  have e : BitVec.ofInt 64 (-1) = BitVec.allOnes 64 := by decide
  rw [e, BitVec.allOnes_xor]
  have t : (BitVec.ofInt 64 n).toInt = n := by rw [BitVec.toInt_ofInt, Int.bmod_eq_of_le (by omega) (by omega)]
  rw [BitVec.toInt_not, BitVec.toNat_ofInt]
  rw [Int.bmod_def]
  omega
theorem wraps_i64 (n : Int) (h₀ : 0 ≤ n) (h₁ : n < 2 ^ 63) : IntKind.i64.wrap n = n := by rw [IntKind.wrap_i64]; omega
theorem i64_or64 {x : Int} (h : 0 ≤ x) (h' : x ≤ 9223372036854775807) : 64 ≤ bits .or .i64 x 64 ∧ bits .or .i64 x 64 ≤ 9223372036854775807 := by
  obtain ⟨a, rfl⟩ := Int.eq_ofNat_of_zero_le h
  have e := (bits_nat .i64 63 (by decide) wraps_i64 a 64 (by omega) (by decide)).2
  rw [show (64 : Int) = ((64 : Nat) : Int) from rfl, e]
  have h1 : 64 ≤ a ||| 64 := Nat.right_le_or
  have h2 : a ||| 64 < 2 ^ 63 := Nat.or_lt_two_pow (by omega) (by decide)
  omega
end Go
