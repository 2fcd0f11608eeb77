/- The contract of the document Times. -/
import Derived.Test.YtjakhgcmfpldgaaFnsD
namespace Go.Proofs.Ytjakhgcmfpldgaa
open Go.RowKit
set_option linter.unusedVariables false
theorem rt_pp {a b M : Int} (hM : 0 ≤ M) (ha : 0 < a) (hb : 0 < b) : (M / b < a ↔ M < a * b) ∧ 0 ≤ M / b ∧ M / b ≤ M := by
  refine ⟨?_, Int.ediv_nonneg hM (by omega), Int.ediv_le_self _ hM⟩
  have := Int.le_ediv_iff_mul_le (a := a) (b := M) hb
  constructor
  · intro h; by_cases k : a * b ≤ M
    · have := this.2 k; omega
    · omega
  · intro h; by_cases k : a ≤ M / b
    · have := this.1 k; omega
    · omega
theorem rt_nn {a b M : Int} (hM : 0 ≤ M) (ha : a < 0) (hb : b < 0) : (a < M.tdiv b ↔ M < a * b) ∧ -M ≤ M.tdiv b ∧ M.tdiv b ≤ 0 := by
  have e : M.tdiv b = -(M / (-b)) := by
    rw [← Int.tdiv_eq_ediv_of_nonneg hM, Int.tdiv_neg, Int.neg_neg]
  have h := rt_pp hM (show 0 < -a by omega) (show 0 < -b by omega)
  rw [Int.neg_mul_neg] at h
  rw [e]; omega
theorem rt_pn {a b N : Int} (hN : 0 ≤ N) (ha : 0 < a) (hb : b < 0) : (b < -N.tdiv a ↔ a * b < -N) ∧ -N ≤ -N.tdiv a ∧ -N.tdiv a ≤ 0 := by
  have e : N.tdiv a = N / a := Int.tdiv_eq_ediv_of_nonneg hN
  have h := rt_pp hN (show 0 < -b by omega) ha
  rw [Int.neg_mul, Int.mul_comm b a] at h
  rw [e]; omega
theorem rtimes_any (a b : Int) (ha : -9223372036854775808 ≤ a ∧ a ≤ 9223372036854775807) (hb : -9223372036854775808 ≤ b ∧ b ≤ 9223372036854775807) (w : World) :
    Calls Try.prog 34 #[.int .i64 a, .int .i64 b] w fun e w' => e = .returned (.tuple #[.int .i64 (Sat.timesV a b), .int .i64 (Sat.timesE a b)]) ∧ w = w' := by
  unfold Sat.timesV Sat.timesE
  by_cases h0 : a = 0
  · rw [show Sat.fits (a * b) = true by rw [h0, Int.zero_mul]; rfl, if_pos rfl, if_pos rfl, show a * b = 0 by rw [h0, Int.zero_mul]]
    have h1 := beq_t h0
    clear h0
    go_enter Try.func34, Try.ntmps34
    go_wp2
    go_ret2
    exact ⟨rfl, rfl⟩
  have h1 := beq_f h0
  by_cases h0' : b = 0
  · rw [show Sat.fits (a * b) = true by rw [h0', Int.mul_zero]; rfl, if_pos rfl, if_pos rfl, show a * b = 0 by rw [h0', Int.mul_zero]]
    have h2 := beq_t h0'
    clear h0'
    go_enter Try.func34, Try.ntmps34
    go_wp2
    go_ret2
    exact ⟨rfl, rfl⟩
  have h2 := beq_f h0'
  by_cases h3 : 0 < a <;> by_cases h4 : 0 < b
  · have hq := rt_pp (M := 9223372036854775807) (by omega) h3 h4
    obtain ⟨hq, q1, q2⟩ := hq
    have hs : 0 < a * b := Int.mul_pos h3 h4
    by_cases hf : Sat.fits (a * b) = true
    · have hr := fits_t hf
      rw [if_pos hf, if_pos hf]; clear hf
      have hn : a ≤ 9223372036854775807 / b := by omega
      clear hq
      go_enter Try.func34, Try.ntmps34
      go_wp2
      go_ret2
      exact ⟨rfl, rfl⟩
    · have hr := fits_f hf
      rw [if_neg hf, if_neg hf]; clear hf
      have hn : 9223372036854775807 / b < a := by omega
      clear hq
      go_enter Try.func34, Try.ntmps34
      go_wp2
      go_ret2
      exact ⟨rfl, rfl⟩
  · have h4' : b < 0 := by omega
    have hq := rt_pn (N := 9223372036854775808) (by omega) h3 h4'
    obtain ⟨hq, q1, q2⟩ := hq
    have hs : a * b < 0 := Int.mul_neg_of_pos_of_neg h3 h4'
    by_cases hf : Sat.fits (a * b) = true
    · have hr := fits_t hf
      rw [if_pos hf, if_pos hf]; clear hf
      have hn : -(9223372036854775808 : Int).tdiv a ≤ b := by omega
      clear hq
      go_enter Try.func34, Try.ntmps34
      go_wp2
      go_ret2
      exact ⟨rfl, rfl⟩
    · have hr := fits_f hf
      rw [if_neg hf, if_neg hf]; clear hf
      have hn : b < -(9223372036854775808 : Int).tdiv a := by omega
      clear hq
      go_enter Try.func34, Try.ntmps34
      go_wp2
      go_ret2
      exact ⟨rfl, rfl⟩
  · have h3' : a < 0 := by omega
    have hq := rt_pn (N := 9223372036854775808) (by omega) h4 h3'
    obtain ⟨hq, q1, q2⟩ := hq
    rw [Int.mul_comm] at hq
    have hs : a * b < 0 := Int.mul_neg_of_neg_of_pos h3' h4
    by_cases hf : Sat.fits (a * b) = true
    · have hr := fits_t hf
      rw [if_pos hf, if_pos hf]; clear hf
      have hn : -(9223372036854775808 : Int).tdiv b ≤ a := by omega
      clear hq
      go_enter Try.func34, Try.ntmps34
      go_wp2
      go_ret2
      exact ⟨rfl, rfl⟩
    · have hr := fits_f hf
      rw [if_neg hf, if_neg hf]; clear hf
      have hn : a < -(9223372036854775808 : Int).tdiv b := by omega
      clear hq
      go_enter Try.func34, Try.ntmps34
      go_wp2
      go_ret2
      exact ⟨rfl, rfl⟩
  · have h3' : a < 0 := by omega
    have h4' : b < 0 := by omega
    have hq := rt_nn (M := 9223372036854775807) (by omega) h3' h4'
    obtain ⟨hq, q1, q2⟩ := hq
    have hs : 0 < a * b := Int.mul_pos_of_neg_of_neg h3' h4'
    by_cases hf : Sat.fits (a * b) = true
    · have hr := fits_t hf
      rw [if_pos hf, if_pos hf]; clear hf
      have hn : (9223372036854775807 : Int).tdiv b ≤ a := by omega
      clear hq
      go_enter Try.func34, Try.ntmps34
      go_wp2
      go_ret2
      exact ⟨rfl, rfl⟩
    · have hr := fits_f hf
      rw [if_neg hf, if_neg hf]; clear hf
      have hn : a < (9223372036854775807 : Int).tdiv b := by omega
      clear hq
      go_enter Try.func34, Try.ntmps34
      go_wp2
      go_ret2
      exact ⟨rfl, rfl⟩
end Go.Proofs.Ytjakhgcmfpldgaa
