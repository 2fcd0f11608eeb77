/- Plain facts on the division of 128 bits by 64 (Knuth's algorithm, two digits of 32 bits). -/
set_option linter.unusedVariables false
namespace Dv
/-- a digit's estimate -/
def KInv (u v1 v0 u1 q r : Int) : Prop := 0 ≤ q ∧ q * v1 + r = u ∧ 0 ≤ r ∧ (u * 4294967296 + u1) / (v1 * 4294967296 + v0) ≤ q
/-- the numbers are as they have to be -/
def Fit (u v1 v0 u1 : Int) : Prop := 0 ≤ u ∧ u < v1 * 4294967296 + v0 ∧ 2147483648 ≤ v1 ∧ v1 < 4294967296 ∧ 0 ≤ v0 ∧ v0 < 4294967296 ∧ 0 ≤ u1 ∧ u1 < 4294967296
theorem k_start {u v1 v0 u1 : Int} (f : Fit u v1 v0 u1) : KInv u v1 v0 u1 (u / v1) (u - u / v1 * v1) ∧ 0 ≤ u / v1 * v1 ∧ u / v1 * v1 ≤ u ∧ u / v1 < 8589934592 ∧ u - u / v1 * v1 < 4294967296 := by
  obtain ⟨f1, f2, f3, f4, f5, f6, f7, f8⟩ := f
  have e := Int.mul_ediv_add_emod u v1
  have r0 := Int.emod_nonneg u (show v1 ≠ 0 by omega)
  have r1 := Int.emod_lt_of_pos u (show 0 < v1 by omega)
  have q0 : 0 ≤ u / v1 := Int.ediv_nonneg f1 (by omega)
  rw [Int.mul_comm] at e
  have qv := Int.mul_nonneg q0 (show 0 ≤ v1 by omega)
  refine ⟨⟨q0, by omega, by omega, ?_⟩, qv, by omega, ?_, by omega⟩
  · have hu1 : u < (u / v1 + 1) * v1 := by rw [Int.add_mul]; omega
    rw [← Int.lt_add_one_iff, Int.ediv_lt_iff_lt_mul (by omega)]
    generalize u / v1 + 1 = Q at *
    have hQ : 0 ≤ Q * v0 := Int.mul_nonneg (by
      by_cases hc : 0 ≤ Q
      · exact hc
      · have := Int.mul_le_mul_of_nonneg_right (show Q ≤ 0 by omega) (show 0 ≤ v1 by omega)
        omega) f5
    rw [Int.mul_add, ← Int.mul_assoc]; omega
  · rw [Int.ediv_lt_iff_lt_mul (by omega)]; omega
/-- the test of the loop says yes: the estimate is too great -/
theorem k_step {u v1 v0 u1 q r : Int} (f : Fit u v1 v0 u1) (h : KInv u v1 v0 u1 q r) (ht : 4294967296 ≤ q ∨ 4294967296 * r + u1 < q * v0) : KInv u v1 v0 u1 (q - 1) (r + v1) ∧ 1 ≤ q := by
  obtain ⟨f1, f2, f3, f4, f5, f6, f7, f8⟩ := f
  obtain ⟨q0, e, r0, h⟩ := h
  have hv : 0 < v1 * 4294967296 + v0 := by omega
  have hlt : (u * 4294967296 + u1) / (v1 * 4294967296 + v0) < q := by
    rw [Int.ediv_lt_iff_lt_mul hv, Int.mul_add, ← Int.mul_assoc]
    rcases ht with ht | ht
    · have a := Int.mul_le_mul_of_nonneg_right ht (show 0 ≤ v1 by omega)
      have b := Int.mul_le_mul_of_nonneg_right ht f5
      omega
    · omega
  have hq : 1 ≤ q := by
    have : 0 ≤ (u * 4294967296 + u1) / (v1 * 4294967296 + v0) := Int.ediv_nonneg (by omega) (by omega)
    omega
  exact ⟨⟨by omega, by rw [Int.sub_mul]; omega, by omega, by omega⟩, hq⟩
/-- the test says no: the estimate is the digit -/
theorem k_stop {u v1 v0 u1 q r : Int} (f : Fit u v1 v0 u1) (h : KInv u v1 v0 u1 q r) (h2 : q * v0 ≤ 4294967296 * r + u1) : q = (u * 4294967296 + u1) / (v1 * 4294967296 + v0) := by
  obtain ⟨f1, f2, f3, f4, f5, f6, f7, f8⟩ := f
  obtain ⟨q0, e, r0, h⟩ := h
  have hv : 0 < v1 * 4294967296 + v0 := by omega
  have : q ≤ (u * 4294967296 + u1) / (v1 * 4294967296 + v0) := by
    rw [Int.le_ediv_iff_mul_le hv, Int.mul_add, ← Int.mul_assoc]; omega
  omega
/-- the rest is great: so is the digit -/
theorem k_break {u v1 v0 u1 q r : Int} (f : Fit u v1 v0 u1) (h : KInv u v1 v0 u1 q r) (hr : 4294967296 ≤ r) : q = (u * 4294967296 + u1) / (v1 * 4294967296 + v0) := by
  refine k_stop f h ?_
  obtain ⟨f1, f2, f3, f4, f5, f6, f7, f8⟩ := f
  obtain ⟨q0, e, r0, h⟩ := h
  have hq : q < 4294967296 := by
    by_cases hc : q < 4294967296
    · exact hc
    · have a := Int.mul_le_mul_of_nonneg_right (show 4294967296 ≤ q by omega) (show 0 ≤ v1 by omega)
      omega
  have a := Int.mul_le_mul_of_nonneg_right (show q ≤ 4294967295 by omega) f5
  omega
/-- the digit is a digit, and the rest is what is left -/
theorem k_digit {u v1 v0 u1 : Int} (f : Fit u v1 v0 u1) : 0 ≤ (u * 4294967296 + u1) / (v1 * 4294967296 + v0) ∧ (u * 4294967296 + u1) / (v1 * 4294967296 + v0) < 4294967296 ∧
    (u * 4294967296 + u1) - (u * 4294967296 + u1) / (v1 * 4294967296 + v0) * (v1 * 4294967296 + v0) = (u * 4294967296 + u1) % (v1 * 4294967296 + v0) := by
  obtain ⟨f1, f2, f3, f4, f5, f6, f7, f8⟩ := f
  refine ⟨Int.ediv_nonneg (by omega) (by omega), ?_, ?_⟩
  · rw [Int.ediv_lt_iff_lt_mul (by omega)]
    generalize v1 * 4294967296 + v0 = V at *
    omega
  · have := Int.mul_ediv_add_emod (u * 4294967296 + u1) (v1 * 4294967296 + v0)
    rw [Int.mul_comm] at this; omega
theorem k_bound {u v1 v0 u1 q r : Int} (f : Fit u v1 v0 u1) (h : KInv u v1 v0 u1 q r) (hr : r < 4294967296) (hq : q < 4294967296) : 0 ≤ q * v0 ∧ q * v0 ≤ 18446744073709551615 ∧ 4294967296 * r + u1 ≤ 18446744073709551615 := by
  obtain ⟨f1, f2, f3, f4, f5, f6, f7, f8⟩ := f
  obtain ⟨q0, e, r0, h⟩ := h
  have a := Int.mul_le_mul_of_nonneg_right (show q ≤ 4294967295 by omega) f5
  have b := Int.mul_nonneg q0 f5
  omega
/-- unsigned arithmetic wraps: the rest comes out all the same -/
theorem wrap_rest (a b c d R M : Int) (h : a * M + b - c * d = R) (h0 : 0 ≤ R) (h1 : R < 18446744073709551616) : (((a * M) % 18446744073709551616 + b) % 18446744073709551616 - (c * d) % 18446744073709551616) % 18446744073709551616 = R := by
  rw [Int.emod_add_emod, Int.sub_emod, Int.emod_emod, Int.emod_emod, ← Int.sub_emod, h]
  exact Int.emod_eq_of_lt h0 h1
/-- all together: two digits of a shifted number -/
theorem two_digits {hi lo y un32 un1 un0 : Int} {S : Int} (hS : 1 ≤ S) (hy : 1 ≤ y) (hhi : 0 ≤ hi) (hlo : 0 ≤ lo)
    (hu : un32 * 18446744073709551616 + un1 * 4294967296 + un0 = (hi * 18446744073709551616 + lo) * S) :
    (((un32 * 4294967296 + un1) % (y * S)) * 4294967296 + un0) % (y * S) / S = (hi * 18446744073709551616 + lo) % y := by
  have e : ((un32 * 4294967296 + un1) % (y * S) * 4294967296 + un0) % (y * S) = ((hi * 18446744073709551616 + lo) * S) % (y * S) := by
    rw [← hu, show un32 * 18446744073709551616 + un1 * 4294967296 + un0 = (un32 * 4294967296 + un1) * 4294967296 + un0 by omega]
    rw [Int.add_emod, Int.mul_emod, Int.emod_emod, ← Int.mul_emod, ← Int.add_emod]
  rw [e, Int.mul_comm _ S, Int.mul_comm y S, Int.mul_emod_mul_of_pos _ _ (by omega), Int.mul_ediv_cancel_left _ (by omega)]
end Dv
