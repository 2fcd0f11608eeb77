/- Bits of natural numbers below 2^64, and the machine's words for them. -/
import Derived.Test.YtnmgcjkffeeapaaDoorBase
namespace Go.Proofs.YtnmgcjkffeeapaaDoor
open Go.RowKit
set_option linter.unusedVariables false
set_option linter.unusedSimpArgs false
theorem u64_wrap {a : Nat} (h : a < 2 ^ 64) : IntKind.u64.wrap (a : Int) = a := by
  simp [IntKind.wrap, IntKind.bits, IntKind.signed]; omega
theorem ofInt_nat (a : Nat) : BitVec.ofInt 64 (a : Int) = BitVec.ofNat 64 a := by simp
theorem bu_and {a b : Nat} (ha : a < 2 ^ 64) (hb : b < 2 ^ 64) : bits .and .u64 (a : Int) (b : Int) = ((a &&& b : Nat) : Int) := by
  show IntKind.u64.wrap ((BitVec.ofInt 64 (a : Int) &&& BitVec.ofInt 64 (b : Int)).toNat : Nat) = _
  rw [u64_wrap (BitVec.isLt _)]
  simp [Nat.mod_eq_of_lt ha, Nat.mod_eq_of_lt hb]
theorem bu_or {a b : Nat} (ha : a < 2 ^ 64) (hb : b < 2 ^ 64) : bits .or .u64 (a : Int) (b : Int) = ((a ||| b : Nat) : Int) := by
  show IntKind.u64.wrap ((BitVec.ofInt 64 (a : Int) ||| BitVec.ofInt 64 (b : Int)).toNat : Nat) = _
  rw [u64_wrap (BitVec.isLt _)]
  simp [Nat.mod_eq_of_lt ha, Nat.mod_eq_of_lt hb]
theorem bu_clear {a b : Nat} (ha : a < 2 ^ 64) (hb : b < 2 ^ 64) : ∃ c : Nat, bits .andNot .u64 (a : Int) (b : Int) = (c : Int) ∧ c < 2 ^ 64 ∧ ∀ i, c.testBit i = (a.testBit i && !b.testBit i) := by
  refine ⟨(BitVec.ofInt 64 (a : Int) &&& ~~~BitVec.ofInt 64 (b : Int)).toNat, ?_, BitVec.isLt _, fun i => ?_⟩
  · show IntKind.u64.wrap ((BitVec.ofInt 64 (a : Int) &&& ~~~BitVec.ofInt 64 (b : Int)).toNat : Nat) = _
    exact u64_wrap (BitVec.isLt _)
  rw [BitVec.testBit_toNat, ofInt_nat, ofInt_nat]
  simp only [BitVec.getLsbD_and, BitVec.getLsbD_not, BitVec.getLsbD_ofNat]
  by_cases hi : i < 64
  · simp [hi]
  · have : a.testBit i = false := Nat.testBit_lt_two_pow (Nat.lt_of_lt_of_le ha (Nat.pow_le_pow_right (by omega) (by omega)))
    simp [this]
/-- the lowest bit -/
def tz (x : Nat) : Nat := ((List.range 64).find? fun k => x.testBit k).getD 64
theorem tz_spec {x : Nat} (h0 : 0 < x) (h : x < 2 ^ 64) : tz x < 64 ∧ x.testBit (tz x) = true ∧ ∀ k, k < tz x → x.testBit k = false := by
  unfold tz
  cases hf : (List.range 64).find? fun k => x.testBit k with
  | none =>
    exfalso
    rw [List.find?_eq_none] at hf
    have : x = 0 := by
      apply Nat.eq_of_testBit_eq
      intro i
      rw [Nat.zero_testBit]
      by_cases hi : i < 64
      · have := hf i (List.mem_range.2 hi)
        simpa using this
      · exact Nat.testBit_lt_two_pow (Nat.lt_of_lt_of_le h (Nat.pow_le_pow_right (by omega) (by omega)))
    omega
  | some k =>
    rw [List.find?_range_eq_some] at hf
    obtain ⟨h1, h2, h3⟩ := hf
    simp only [Option.getD_some]
    exact ⟨List.mem_range.1 h2, h1, fun j hj => by simpa using h3 j hj⟩
theorem low_form {x : Nat} (h0 : 0 < x) (h : x < 2 ^ 64) : ∃ q, x = 2 ^ tz x * (2 * q + 1) := by
  obtain ⟨h1, h2, h3⟩ := tz_spec h0 h
  have hm : x % 2 ^ tz x = 0 := by
    apply Nat.eq_of_testBit_eq
    intro i
    rw [Nat.testBit_mod_two_pow, Nat.zero_testBit]
    by_cases hi : i < tz x
    · simp [h3 i hi]
    · simp [hi]
  have hd : x / 2 ^ tz x % 2 = 1 := by
    have := h2
    rw [Nat.testBit_eq_decide_div_mod_eq] at this
    simpa using this
  refine ⟨x / 2 ^ tz x / 2, ?_⟩
  have e1 : x = 2 ^ tz x * (x / 2 ^ tz x) := by
    have := Nat.div_add_mod x (2 ^ tz x)
    omega
  have e2 : 2 * (x / 2 ^ tz x / 2) + 1 = x / 2 ^ tz x := by omega
  rw [e2]; exact e1
theorem low_bit {x : Nat} (h0 : 0 < x) (h : x < 2 ^ 64) : x &&& (2 ^ 64 - x) = 2 ^ tz x := by
  obtain ⟨q, hq⟩ := low_form h0 h
  have ht := (tz_spec h0 h).1
  generalize tz x = k at *
  have hx1 : x - 1 = 2 ^ (k + 1) * q + (2 ^ k - 1) := by
    have hp : 0 < 2 ^ k := Nat.two_pow_pos k
    have e : 2 ^ (k + 1) * q = 2 ^ k * (2 * q) := by rw [Nat.pow_succ, Nat.mul_assoc]
    rw [hq, e, Nat.mul_add, Nat.mul_one]
    omega
  have hx2 : x = 2 ^ (k + 1) * q + 2 ^ k := by
    rw [hq, Nat.mul_add, Nat.mul_one, Nat.pow_succ, Nat.mul_assoc]
  apply Nat.eq_of_testBit_eq
  intro i
  have e64 : 2 ^ 64 - x = 2 ^ 64 - ((x - 1) + 1) := by omega
  rw [Nat.testBit_and, e64, Nat.testBit_two_pow_sub_succ (by omega), hx1, hx2, Nat.testBit_two_pow_mul_add _ (Nat.pow_lt_pow_right (by omega) (by omega)), Nat.testBit_two_pow_mul_add _ (by have := Nat.pow_lt_pow_right (a := 2) (by omega) (Nat.lt_succ_self k); have := Nat.two_pow_pos k; omega), Nat.testBit_two_pow]
  by_cases h1 : i < k + 1
  · rw [if_pos h1, if_pos h1, Nat.testBit_two_pow_sub_one]
    by_cases e : k = i
    · subst e; simp; omega
    · simp [e]
  · rw [if_neg h1, if_neg h1]
    have : k ≠ i := by omega
    simp [this]
    intro q1 _
    exact q1
theorem i64_and_mask (n : Int) (i : Nat) (hi : i ≤ 63) : bits .and .i64 n (2 ^ i - 1) = n % 2 ^ i := by
  have hp : (2 : Int) ^ i ≤ 2 ^ 63 := by
    have := Nat.pow_le_pow_right (n := 2) (by decide) hi; exact_mod_cast this
  have hp' : 2 ^ i ≤ 2 ^ 63 := Nat.pow_le_pow_right (n := 2) (by decide) hi
  have h0 : 0 < 2 ^ i := Nat.two_pow_pos i
  have hm : (BitVec.ofInt 64 (2 ^ i - 1)).toNat = 2 ^ i - 1 := by
    rw [BitVec.toNat_ofInt]
    have : ((2 : Int) ^ i - 1) = ((2 ^ i - 1 : Nat) : Int) := by rw [Int.natCast_sub h0]; simp
    rw [this]; omega
  have key : (BitVec.ofInt 64 n &&& BitVec.ofInt 64 (2 ^ i - 1)).toNat = (n % ((2 ^ 64 : Nat) : Int)).toNat % 2 ^ i := by
    rw [BitVec.toNat_and, BitVec.toNat_ofInt, hm, Nat.and_two_pow_sub_one_eq_mod]
  show IntKind.i64.wrap ((BitVec.ofInt 64 n &&& BitVec.ofInt 64 (2 ^ i - 1)).toNat : Nat) = n % 2 ^ i
  rw [key, IntKind.wrap_i64]
  have e : (((n % ((2 ^ 64 : Nat) : Int)).toNat % 2 ^ i : Nat) : Int) = n % 2 ^ i := by
    have t : ((n % ((2 ^ 64 : Nat) : Int)).toNat : Int) = n % ((2 ^ 64 : Nat) : Int) := Int.toNat_of_nonneg (Int.emod_nonneg _ (by decide))
    rw [Int.natCast_emod, t]
    have d : ((2 ^ i : Nat) : Int) ∣ ((2 ^ 64 : Nat) : Int) := by exact_mod_cast Nat.pow_dvd_pow 2 (by omega : i ≤ 64)
    rw [Int.emod_emod_of_dvd _ d]; simp
  rw [e]
  have h0' : (0 : Int) < 2 ^ i := by exact_mod_cast h0
  have b1 := Int.emod_nonneg n (show (2 : Int) ^ i ≠ 0 by omega)
  have b2 := Int.emod_lt_of_pos n h0'
  have e63 : (2 : Int) ^ 63 = 9223372036854775808 := by decide
  omega
theorem i64_and63 (n : Int) : bits .and .i64 n 63 = n % 64 := i64_and_mask n 6 (by omega)
end Go.Proofs.YtnmgcjkffeeapaaDoor
